/-
  Structs behind a pointer: read as an argument, built, perhaps nil. No condition.
-/
import Derived.Test.YtilmadapmcnlgaaMore
import Derived.Test.YtilmadapmcnlgaaFacts
namespace Go.Proofs.Ytilmadapmcnlgaa
open Go Go.RowKit

/-- A block that is only read. -/
def BlkAt (w : World) (b : Nat) (cs : List Value) : Prop := b < w.heap.size ∧ ∀ (j : Nat) (u : Value), cs[j]? = some u → w.cell? ⟨b, j, none⟩ = some u
theorem BlkAt.below {w w' : World} {b : Nat} {cs : List Value} (h : BlkAt w b cs) (hb : Below w.heap.size w w') : BlkAt w' b cs :=
  ⟨Nat.lt_of_lt_of_le h.1 hb.size, fun j u hu => (hb.cell (p := ⟨b, j, none⟩) h.1).trans (h.2 j u hu)⟩
/-- A pointer that may be nil, and its block. -/
def wptr (o : Bool) (b : Nat) : Value := bif o then .pointer (some ⟨b, 0, none⟩) else .pointer none
def wblk (o : Bool) (b : Nat) (e : TypeId) (cs : List Value) : Ck := bif o then .blk b e cs else nilCk
theorem wptr_t {o : Bool} (h : o = true) (b : Nat) : wptr o b = .pointer (some ⟨b, 0, none⟩) := by subst h; rfl
theorem wblk_t {o : Bool} (h : o = true) (b : Nat) (e : TypeId) (cs : List Value) : wblk o b e cs = .blk b e cs := by subst h; rfl
section
variable {P : Program} {ops : Array Oper} {Q : Exit → Act → World → Prop} {N : Nat} {C : World → Prop} {rest : List Oper} {l : Sl}
variable {w0 : World} {os : List Ck} {v u : Value} {t t' e : TypeId} {d k : Nat} {x y : Operand} {ty : TypeId} {ps : String} {af : Array Edge} {dd : Option Tmp} {g : Option (Nat × Bool)} {m n : Int}
theorem y_pickKT {c : Operand} {b : Bool} (hc : Ev l c (.bool b)) (h : b = true) (hx : Ev l x v) : Ys P C N l ⟨dd, .pick c x y, ty, ps, af, g⟩ v := y_pick hc (fun _ => hx) (fun h' => by rw [h] at h'; cases h')
theorem y_pickKF {c : Operand} {b : Bool} (hc : Ev l c (.bool b)) (h : b = false) (hy : Ev l y v) : Ys P C N l ⟨dd, .pick c x y, ty, ps, af, g⟩ v := y_pick hc (fun h' => by rw [h] at h'; cases h') (fun _ => hy)
theorem blk_at {w : World} {b : Nat} {cs : List Value} (i : Nat) (ho : os[i]? = some (.blk b e cs)) (hw : Hp w0 os w) : BlkAt w b cs := by
  have h := hw.get i ho
  refine ⟨(h.lt b rfl).2, fun j u hu => ?_⟩
  rw [cell_of_row w b j cs.toArray e (0, 0) h.2]
  simpa using hu
theorem y_ldk {b j : Nat} {cs : List Value} (hx : Ev l x (.pointer (some ⟨b, j, none⟩))) (hT : One P t) (hc : BlkAt w0 b cs) (hu : cs[j]? = some u) : Ys P (Hp w0 os) N l ⟨dd, .load t x, ty, ps, af, g⟩ u := yl_of fun a w hs hw => by
  have h1 := (hc.below hw.1).2 j u hu
  have h2 := hx N a hs
  simp [execOp, h2, Instr.loadAt, Instr.sureAddr, loadVar, hT.1 w, h1]
theorem y_bldW {v1 v2 : Value} {n1 n2 : Nat} (hx : Ev l x (.agg #[v1])) (hy : Ev l y v2) (h : ∀ A n c A2 n2 c2 w, (Instr.build t #[(0, .agg #[.slice A n c]), (1, .slice A2 n2 c2)]).run P w = .ok (.agg #[.slice A n c, .slice A2 n2 c2, .slice none 0 0]) w)
    (hl : ∀ w, C w → Ln v1 n1) (hl2 : ∀ w, C w → Ln v2 n2) : Ys P C N l ⟨dd, .build t #[(0, x), (1, y)], ty, ps, af, g⟩ (.agg #[v1, v2, .slice none 0 0]) := yl_of fun a w hs hw => by
  obtain ⟨A, c, rfl, _⟩ := hl w hw
  obtain ⟨A2, c2, rfl, _⟩ := hl2 w hw
  simp [execOp, hx N a hs, hy N a hs, h]
theorem y_bldF (hx : Ev l x (.int .i64 m)) (h : ∀ m w, (Instr.build t #[(0, .int .i64 m)]).run P w = .ok (.agg #[.int .i64 m, .slice none 0 0]) w) : Ys P C N l ⟨dd, .build t #[(0, x)], ty, ps, af, g⟩ (.agg #[.int .i64 m, .slice none 0 0]) := yl_of fun a w hs hw => by
  simp [execOp, hx N a hs, h]
theorem TL.boxW {v1 v2 : Value} {n1 n2 : Nat} (hx : Ev l x (.agg #[v1, v2, .slice none 0 0])) (hl : ∀ w, Hp w0 os w → Ln v1 n1) (hl2 : ∀ w, Hp w0 os w → Ln v2 n2) (hb : Nat.blt d N = true)
    (h : ∀ b, TL P ops Q N (Hp w0 (.blk b e [v1, v2, .slice none 0 0] :: os)) rest ((d, .pointer (some ⟨b, 0, none⟩)) :: l)) :
    TL P ops Q N (Hp w0 os) (⟨some d, .box e x, ty, ps, af, none⟩ :: rest) l := fun a w hs hw => by
  obtain ⟨A, c, rfl, _⟩ := hl w hw
  obtain ⟨A2, c2, rfl, _⟩ := hl2 w hw
  exact TL.box hx hb h a w hs hw
end
theorem fa_70_0 (b : Nat) (w : World) : (Instr.fieldAt 70 (.pointer (some ⟨b, 0, none⟩)) 0).run Try.prog w = .ok (.pointer (some ⟨b, 0, none⟩)) w := by kernel_rfl
theorem fa_70_1 (b : Nat) (w : World) : (Instr.fieldAt 70 (.pointer (some ⟨b, 0, none⟩)) 1).run Try.prog w = .ok (.pointer (some ⟨b, 1, none⟩)) w := by kernel_rfl
theorem fa_70_2 (b : Nat) (w : World) : (Instr.fieldAt 70 (.pointer (some ⟨b, 0, none⟩)) 2).run Try.prog w = .ok (.pointer (some ⟨b, 2, none⟩)) w := by kernel_rfl
theorem bd_70_w (A : Option Addr) (n c : Nat) (A2 : Option Addr) (n2 c2 : Nat) (w : World) : (Instr.build 70 #[(0, .agg #[.slice A n c]), (1, .slice A2 n2 c2)]).run Try.prog w = .ok (.agg #[.slice A n c, .slice A2 n2 c2, .slice none 0 0]) w := by kernel_rfl
theorem fa_93_0 (b : Nat) (w : World) : (Instr.fieldAt 93 (.pointer (some ⟨b, 0, none⟩)) 0).run Try.prog w = .ok (.pointer (some ⟨b, 0, none⟩)) w := by kernel_rfl
theorem fa_93_1 (b : Nat) (w : World) : (Instr.fieldAt 93 (.pointer (some ⟨b, 0, none⟩)) 1).run Try.prog w = .ok (.pointer (some ⟨b, 1, none⟩)) w := by kernel_rfl
theorem bd_93_f (m : Int) (w : World) : (Instr.build 93 #[(0, .int .i64 m)]).run Try.prog w = .ok (.agg #[.int .i64 m, .slice none 0 0]) w := by kernel_rfl
end Go.Proofs.Ytilmadapmcnlgaa
