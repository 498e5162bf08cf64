/-
  The rules by which this seat's walks go: a state of the slots as a list, a class of worlds, one rule for each kind of operation. No condition.
-/
import Derived.WalkKit
import Derived.Deep.Quiet
import Derived.Deep.LoopGhost
import Derived.Maps.AppendAt
namespace Go.Proofs.Ytcmhgkcifejgcaa
open Go Go.RowKit

/-- What is known of the slots: the first pair that bears a number counts. -/
abbrev Sl := List (Nat × Value)

def look : Sl → Nat → Option Value
  | [], _ => none
  | (i, v) :: t, j => bif Nat.beq i j then some v else look t j

structure Slots (N : Nat) (l : Sl) (a : Act) : Prop where
  size : a.tmps.size = N
  defers : a.defers = []
  at_ : ∀ i v, look l i = some v → i < N ∧ a.tmps.getD i undef = v

theorem look_cons (i : Nat) (v : Value) (t : Sl) (j : Nat) : look ((i, v) :: t) j = if i = j then some v else look t j := by
  by_cases h : i = j
  · subst h; simp [look]
  · have hb : Nat.beq i j = false := by
      rw [Bool.eq_false_iff]; intro hh; exact h (Nat.eq_of_beq_eq_true hh)
    simp [look, hb, h]

theorem Slots.put {N : Nat} {l : Sl} {a : Act} (h : Slots N l a) {d : Nat} (hd : Nat.blt d N = true) (v : Value) : Slots N ((d, v) :: l) (a.put (some d) v) := by
  have hd' : d < N := by simpa [Nat.blt_eq] using hd
  refine ⟨by simp [Act.put, h.size], by simp [Act.put, h.defers], ?_⟩
  intro i u hi
  rw [look_cons] at hi
  have hs := h.size
  by_cases e : d = i
  · subst e
    rw [if_pos rfl] at hi
    have hi := Option.some.inj hi
    subst hi
    refine ⟨hd', ?_⟩
    simp [Act.put, hs, hd']
  · rw [if_neg e] at hi
    obtain ⟨h1, h2⟩ := h.at_ i u hi
    refine ⟨h1, ?_⟩
    simp only [Act.put]
    rw [← h2]
    simp [e]

/-- A shorter list of slots. -/
def Subl : Sl → Sl → Prop
  | [], _ => True
  | (i, v) :: t, l => look l i = some v ∧ Subl t l

theorem Subl.look {l' l : Sl} (hs : Subl l' l) : ∀ i v, look l' i = some v → look l i = some v := by
  induction l' with
  | nil => intro i v h; simp [Proofs.Ytcmhgkcifejgcaa.look] at h
  | cons p t ih =>
    obtain ⟨j, u⟩ := p
    intro i v h
    rw [look_cons] at h
    by_cases e : j = i
    · subst e; rw [if_pos rfl] at h; have h := Option.some.inj h; subst h; exact hs.1
    · rw [if_neg e] at h; exact ih hs.2 i v h

theorem Slots.sub {N : Nat} {l l' : Sl} {a : Act} (h : Slots N l a) (hs : Subl l' l) : Slots N l' a :=
  ⟨h.size, h.defers, fun i v hi => h.at_ i v (hs.look i v hi)⟩

/-- A slot of an operation under a guard. -/
def gd (b : Bool) (v : Value) : Value := bif b then v else undef
theorem gd_of {b : Bool} (h : b = true) (v : Value) : gd b v = v := by subst h; rfl

/-- What an operand is worth. -/
def Ev (l : Sl) (x : Operand) (v : Value) : Prop := ∀ N a, Slots N l a → a.eval x = v

theorem ev_t {l : Sl} {t : Nat} {v : Value} (h : look l t = some v) : Ev l (.tmp t) v := fun _ _ hs => (hs.at_ t v h).2
theorem ev_c {l : Sl} {v : Value} : Ev l (.const v) v := fun _ _ _ => rfl
theorem ev_f {l : Sl} {f : Nat} : Ev l (.func f) (.func (.func f) #[] #[]) := fun _ _ _ => rfl
theorem ev_g {l : Sl} {t : Nat} {b : Bool} {v : Value} (h : look l t = some (gd b v)) (hb : b = true) : Ev l (.tmp t) v := fun _ _ hs => by
  rw [← gd_of hb v]; exact (hs.at_ t _ h).2

def Evs (l : Sl) : List Operand → List Value → Prop
  | [], [] => True
  | x :: xs, v :: vs => Ev l x v ∧ Evs l xs vs
  | _, _ => False

theorem Evs.eq {l : Sl} : ∀ {xs : List Operand} {vs : List Value}, Evs l xs vs → ∀ N a, Slots N l a → xs.map a.eval = vs
  | [], [], _, _, _, _ => rfl
  | x :: xs, v :: vs, h, N, a, hs => by simp [h.1 N a hs, Evs.eq h.2 N a hs]

section
variable {P : Program} {C : World → Prop} {N : Nat} {l : Sl}

/-- In every world of the class, whatever the frame, the operation yields v and leaves a world of the class. -/
def Yl (P : Program) (C : World → Prop) (N : Nat) (l : Sl) (o : Oper) (v : Value) : Prop :=
  ∀ a w, Slots N l a → C w → Oper.quietUpon P C w v ((execOp a.eval o).run P w)

/-- The same, and the world is left as it is. -/
def Ys (P : Program) (C : World → Prop) (N : Nat) (l : Sl) (o : Oper) (v : Value) : Prop := ∀ a w, Slots N l a → C w → (execOp a.eval o).run P w = .ok (.value v) w
theorem yl_of {o : Oper} {v : Value} (h : ∀ a w, Slots N l a → C w → (execOp a.eval o).run P w = .ok (.value v) w) : Ys P C N l o v := h
theorem yq {o : Oper} {v : Value} (h : Ys P C N l o v) : Yl P C N l o v := fun a w hs hc => by
  rw [h a w hs hc]; exact ⟨rfl, rfl⟩

variable {d : Option Tmp} {ty : TypeId} {ps : String} {af : Array Edge} {g : Option (Nat × Bool)}

theorem y_move {x : Operand} {v : Value} (hx : Ev l x v) : Ys P C N l ⟨d, .move x, ty, ps, af, g⟩ v := yl_of fun a w hs _ => by simp [execOp, hx N a hs]
theorem y_assign {x : Operand} {v : Value} (hx : Ev l x v) : Ys P C N l ⟨d, .assign x, ty, ps, af, g⟩ v := yl_of fun a w hs _ => by simp [execOp, hx N a hs]

theorem y_pick {c x y : Operand} {b : Bool} {v : Value} (hc : Ev l c (.bool b)) (h1 : b = true → Ev l x v) (h2 : b = false → Ev l y v) : Ys P C N l ⟨d, .pick c x y, ty, ps, af, g⟩ v := yl_of fun a w hs _ => by
  cases b
  · simp [execOp, hc N a hs, h2 rfl N a hs, asBool]
  · simp [execOp, hc N a hs, h1 rfl N a hs, asBool]
/-- '||'. -/
theorem y_or {c y : Operand} {p q : Bool} (hc : Ev l c (.bool p)) (hy : (!p) = true → Ev l y (.bool q)) : Ys P C N l ⟨d, .pick c (.const (.bool true)) y, ty, ps, af, g⟩ (.bool (p || q)) :=
  y_pick hc (fun h => by subst h; exact ev_c) (fun h => by subst h; exact hy rfl)
/-- '&&'. -/
theorem y_and {c x : Operand} {p q : Bool} (hc : Ev l c (.bool p)) (hx : p = true → Ev l x (.bool q)) : Ys P C N l ⟨d, .pick c x (.const (.bool false)), ty, ps, af, g⟩ (.bool (p && q)) :=
  y_pick hc (fun h => by subst h; exact hx rfl) (fun h => by subst h; exact ev_c)
theorem y_not {x : Operand} {t : TypeId} {p : Bool} (hx : Ev l x (.bool p)) : Ys P C N l ⟨d, .unOp .not t x, ty, ps, af, g⟩ (.bool (!p)) := yl_of fun a w hs _ => by
  simp [execOp, hx N a hs, Op.unary]

variable {x y : Operand} {t t' : TypeId} {k : IntKind} {m n : Int}
theorem y_lss (hx : Ev l x (.int k m)) (hy : Ev l y (.int k n)) : Ys P C N l ⟨d, .binOp .lss t x y t', ty, ps, af, g⟩ (.bool (decide (m < n))) := yl_of fun a w hs _ => by
  simp only [execOp, hx N a hs, hy N a hs]; simp [go_sem]
theorem y_leq (hx : Ev l x (.int k m)) (hy : Ev l y (.int k n)) : Ys P C N l ⟨d, .binOp .leq t x y t', ty, ps, af, g⟩ (.bool (decide (m ≤ n))) := yl_of fun a w hs _ => by
  simp only [execOp, hx N a hs, hy N a hs]; simp [go_sem]
theorem y_gtr (hx : Ev l x (.int k m)) (hy : Ev l y (.int k n)) : Ys P C N l ⟨d, .binOp .gtr t x y t', ty, ps, af, g⟩ (.bool (decide (n < m))) := yl_of fun a w hs _ => by
  simp only [execOp, hx N a hs, hy N a hs]; simp [go_sem]
theorem y_geq (hx : Ev l x (.int k m)) (hy : Ev l y (.int k n)) : Ys P C N l ⟨d, .binOp .geq t x y t', ty, ps, af, g⟩ (.bool (decide (n ≤ m))) := yl_of fun a w hs _ => by
  simp only [execOp, hx N a hs, hy N a hs]; simp [go_sem]
theorem y_eql (hx : Ev l x (.int k m)) (hy : Ev l y (.int k n)) : Ys P C N l ⟨d, .binOp .eql t x y t', ty, ps, af, g⟩ (.bool (decide (m = n))) := yl_of fun a w hs _ => by
  simp only [execOp, hx N a hs, hy N a hs]; simp [go_sem]; rfl
theorem y_neq (hx : Ev l x (.int k m)) (hy : Ev l y (.int k n)) : Ys P C N l ⟨d, .binOp .neq t x y t', ty, ps, af, g⟩ (.bool (!decide (m = n))) := yl_of fun a w hs _ => by
  simp only [execOp, hx N a hs, hy N a hs]; simp [go_sem]; rfl
theorem y_beql {p q : Bool} (hx : Ev l x (.bool p)) (hy : Ev l y (.bool q)) (ht : P.underlying t = some .bool) : Ys P C N l ⟨d, .binOp .eql t x y t', ty, ps, af, g⟩ (.bool (p == q)) := yl_of fun a w hs _ => by
  simp only [execOp, hx N a hs, hy N a hs]; simp [go_sem, ht]
theorem y_bneq {p q : Bool} (hx : Ev l x (.bool p)) (hy : Ev l y (.bool q)) (ht : P.underlying t = some .bool) : Ys P C N l ⟨d, .binOp .neq t x y t', ty, ps, af, g⟩ (.bool (p != q)) := yl_of fun a w hs _ => by
  simp only [execOp, hx N a hs, hy N a hs]; simp [go_sem, ht]; cases p <;> cases q <;> rfl

def In64 (m : Int) : Prop := -9223372036854775808 ≤ m ∧ m ≤ 9223372036854775807
theorem wrap_in {m : Int} (h : In64 m) : IntKind.i64.wrap m = m := by
  have h1 := h.1; have h2 := h.2; rw [IntKind.wrap_i64]; omega
theorem y_add (hx : Ev l x (.int .i64 m)) (hy : Ev l y (.int .i64 n)) (h : In64 (m + n)) : Ys P C N l ⟨d, .binOp .add t x y t', ty, ps, af, g⟩ (.int .i64 (m + n)) := yl_of fun a w hs _ => by
  simp only [execOp, hx N a hs, hy N a hs]; simp [go_sem, Op.intArith, wrap_in h]
theorem y_sub (hx : Ev l x (.int .i64 m)) (hy : Ev l y (.int .i64 n)) (h : In64 (m - n)) : Ys P C N l ⟨d, .binOp .sub t x y t', ty, ps, af, g⟩ (.int .i64 (m - n)) := yl_of fun a w hs _ => by
  simp only [execOp, hx N a hs, hy N a hs]; simp [go_sem, Op.intArith, wrap_in h]
theorem y_mul (hx : Ev l x (.int .i64 m)) (hy : Ev l y (.int .i64 n)) (h : In64 (m * n)) : Ys P C N l ⟨d, .binOp .mul t x y t', ty, ps, af, g⟩ (.int .i64 (m * n)) := yl_of fun a w hs _ => by
  simp only [execOp, hx N a hs, hy N a hs]; simp [go_sem, Op.intArith, wrap_in h]
theorem y_neg (hx : Ev l x (.int .i64 m)) (h : In64 (-m)) : Ys P C N l ⟨d, .unOp .neg t x, ty, ps, af, g⟩ (.int .i64 (-m)) := yl_of fun a w hs _ => by
  simp only [execOp, hx N a hs]; simp [Op.unary, Op.intArith, go_sem, wrap_in h]
end

end Go.Proofs.Ytcmhgkcifejgcaa
