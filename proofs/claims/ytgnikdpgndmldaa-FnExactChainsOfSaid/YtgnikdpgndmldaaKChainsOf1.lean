/-
  Part of a proof: rules of the walk, plain functions and their laws, walks. No condition.
-/
import Derived.WalkKit
import Derived.Deep.Quiet
import Derived.Deep.LoopGhost
import Derived.Maps.AppendAt
namespace Go.Proofs.Ytgnikdpgndmldaa
set_option linter.unusedVariables false
set_option linter.unusedSimpArgs false
open Go Go.RowKit

/-- What is known of the slots: the first pair that bears a number counts. -/
abbrev Sl := List (Nat × Value)

def look : Sl → Nat → Option Value
  | [], _ => none
  | (i, v) :: t, j => bif Nat.beq i j then some v else look t j

structure Slots (N : Nat) (l : Sl) (a : Act) : Prop where
  size : a.tmps.size = N
  defers : a.defers = []
  at_ : ∀ i v, look l i = some v → i < N ∧ a.tmps.getD i undef = v

theorem look_cons (i : Nat) (v : Value) (t : Sl) (j : Nat) : look ((i, v) :: t) j = if i = j then some v else look t j := by
  by_cases h : i = j
  · subst h; simp [look]
  · have hb : Nat.beq i j = false := by
      rw [Bool.eq_false_iff]; intro hh; exact h (Nat.eq_of_beq_eq_true hh)
    simp [look, hb, h]

theorem Slots.put {N : Nat} {l : Sl} {a : Act} (h : Slots N l a) {d : Nat} (hd : Nat.blt d N = true) (v : Value) : Slots N ((d, v) :: l) (a.put (some d) v) := by
  have hd' : d < N := by simpa [Nat.blt_eq] using hd
  refine ⟨by simp [Act.put, h.size], by simp [Act.put, h.defers], ?_⟩
  intro i u hi
  rw [look_cons] at hi
  have hs := h.size
  by_cases e : d = i
  · subst e
    rw [if_pos rfl] at hi
    have hi := Option.some.inj hi
    subst hi
    refine ⟨hd', ?_⟩
    simp [Act.put, hs, hd']
  · rw [if_neg e] at hi
    obtain ⟨h1, h2⟩ := h.at_ i u hi
    refine ⟨h1, ?_⟩
    simp only [Act.put]
    rw [← h2]
    simp [e]

/-- A shorter list of slots. -/
def Subl : Sl → Sl → Prop
  | [], _ => True
  | (i, v) :: t, l => look l i = some v ∧ Subl t l

theorem Subl.look {l' l : Sl} (hs : Subl l' l) : ∀ i v, look l' i = some v → look l i = some v := by
  induction l' with
  | nil => intro i v h; simp [Proofs.Ytgnikdpgndmldaa.look] at h
  | cons p t ih =>
    obtain ⟨j, u⟩ := p
    intro i v h
    rw [look_cons] at h
    by_cases e : j = i
    · subst e; rw [if_pos rfl] at h; have h := Option.some.inj h; subst h; exact hs.1
    · rw [if_neg e] at h; exact ih hs.2 i v h

theorem Slots.sub {N : Nat} {l l' : Sl} {a : Act} (h : Slots N l a) (hs : Subl l' l) : Slots N l' a :=
  ⟨h.size, h.defers, fun i v hi => h.at_ i v (hs.look i v hi)⟩

/-- A slot of an operation under a guard. -/
def gd (b : Bool) (v : Value) : Value := bif b then v else undef
theorem gd_of {b : Bool} (h : b = true) (v : Value) : gd b v = v := by subst h; rfl

/-- What an operand is worth. -/
def Ev (l : Sl) (x : Operand) (v : Value) : Prop := ∀ N a, Slots N l a → a.eval x = v

theorem ev_t {l : Sl} {t : Nat} {v : Value} (h : look l t = some v) : Ev l (.tmp t) v := fun _ _ hs => (hs.at_ t v h).2
theorem ev_c {l : Sl} {v : Value} : Ev l (.const v) v := fun _ _ _ => rfl
theorem ev_f {l : Sl} {f : Nat} : Ev l (.func f) (.func (.func f) #[] #[]) := fun _ _ _ => rfl
theorem ev_g {l : Sl} {t : Nat} {b : Bool} {v : Value} (h : look l t = some (gd b v)) (hb : b = true) : Ev l (.tmp t) v := fun _ _ hs => by
  rw [← gd_of hb v]; exact (hs.at_ t _ h).2

def Evs (l : Sl) : List Operand → List Value → Prop
  | [], [] => True
  | x :: xs, v :: vs => Ev l x v ∧ Evs l xs vs
  | _, _ => False

theorem Evs.eq {l : Sl} : ∀ {xs : List Operand} {vs : List Value}, Evs l xs vs → ∀ N a, Slots N l a → xs.map a.eval = vs
  | [], [], _, _, _, _ => rfl
  | x :: xs, v :: vs, h, N, a, hs => by simp [h.1 N a hs, Evs.eq h.2 N a hs]

section
variable {P : Program} {C : World → Prop} {N : Nat} {l : Sl}

/-- In every world of the class, whatever the frame, the operation yields v and leaves a world of the class. -/
def Yl (P : Program) (C : World → Prop) (N : Nat) (l : Sl) (o : Oper) (v : Value) : Prop :=
  ∀ a w, Slots N l a → C w → Oper.quietUpon P C w v ((execOp a.eval o).run P w)

/-- The same, and the world is left as it is. -/
def Ys (P : Program) (C : World → Prop) (N : Nat) (l : Sl) (o : Oper) (v : Value) : Prop := ∀ a w, Slots N l a → C w → (execOp a.eval o).run P w = .ok (.value v) w
theorem yl_of {o : Oper} {v : Value} (h : ∀ a w, Slots N l a → C w → (execOp a.eval o).run P w = .ok (.value v) w) : Ys P C N l o v := h
theorem yq {o : Oper} {v : Value} (h : Ys P C N l o v) : Yl P C N l o v := fun a w hs hc => by
  rw [h a w hs hc]; exact ⟨rfl, rfl⟩

variable {d : Option Tmp} {ty : TypeId} {ps : String} {af : Array Edge} {g : Option (Nat × Bool)}

theorem y_move {x : Operand} {v : Value} (hx : Ev l x v) : Ys P C N l ⟨d, .move x, ty, ps, af, g⟩ v := yl_of fun a w hs _ => by simp [execOp, hx N a hs]
theorem y_assign {x : Operand} {v : Value} (hx : Ev l x v) : Ys P C N l ⟨d, .assign x, ty, ps, af, g⟩ v := yl_of fun a w hs _ => by simp [execOp, hx N a hs]

theorem y_pick {c x y : Operand} {b : Bool} {v : Value} (hc : Ev l c (.bool b)) (h1 : b = true → Ev l x v) (h2 : b = false → Ev l y v) : Ys P C N l ⟨d, .pick c x y, ty, ps, af, g⟩ v := yl_of fun a w hs _ => by
  cases b
  · simp [execOp, hc N a hs, h2 rfl N a hs, asBool]
  · simp [execOp, hc N a hs, h1 rfl N a hs, asBool]
/-- '||'. -/
theorem y_or {c y : Operand} {p q : Bool} (hc : Ev l c (.bool p)) (hy : (!p) = true → Ev l y (.bool q)) : Ys P C N l ⟨d, .pick c (.const (.bool true)) y, ty, ps, af, g⟩ (.bool (p || q)) :=
  y_pick hc (fun h => by subst h; exact ev_c) (fun h => by subst h; exact hy rfl)
/-- '&&'. -/
theorem y_and {c x : Operand} {p q : Bool} (hc : Ev l c (.bool p)) (hx : p = true → Ev l x (.bool q)) : Ys P C N l ⟨d, .pick c x (.const (.bool false)), ty, ps, af, g⟩ (.bool (p && q)) :=
  y_pick hc (fun h => by subst h; exact hx rfl) (fun h => by subst h; exact ev_c)
theorem y_not {x : Operand} {t : TypeId} {p : Bool} (hx : Ev l x (.bool p)) : Ys P C N l ⟨d, .unOp .not t x, ty, ps, af, g⟩ (.bool (!p)) := yl_of fun a w hs _ => by
  simp [execOp, hx N a hs, Op.unary]

variable {x y : Operand} {t t' : TypeId} {k : IntKind} {m n : Int}
theorem y_lss (hx : Ev l x (.int k m)) (hy : Ev l y (.int k n)) : Ys P C N l ⟨d, .binOp .lss t x y t', ty, ps, af, g⟩ (.bool (decide (m < n))) := yl_of fun a w hs _ => by
  simp only [execOp, hx N a hs, hy N a hs]; simp [go_sem]
theorem y_leq (hx : Ev l x (.int k m)) (hy : Ev l y (.int k n)) : Ys P C N l ⟨d, .binOp .leq t x y t', ty, ps, af, g⟩ (.bool (decide (m ≤ n))) := yl_of fun a w hs _ => by
  simp only [execOp, hx N a hs, hy N a hs]; simp [go_sem]
theorem y_gtr (hx : Ev l x (.int k m)) (hy : Ev l y (.int k n)) : Ys P C N l ⟨d, .binOp .gtr t x y t', ty, ps, af, g⟩ (.bool (decide (n < m))) := yl_of fun a w hs _ => by
  simp only [execOp, hx N a hs, hy N a hs]; simp [go_sem]
theorem y_geq (hx : Ev l x (.int k m)) (hy : Ev l y (.int k n)) : Ys P C N l ⟨d, .binOp .geq t x y t', ty, ps, af, g⟩ (.bool (decide (n ≤ m))) := yl_of fun a w hs _ => by
  simp only [execOp, hx N a hs, hy N a hs]; simp [go_sem]
theorem y_eql (hx : Ev l x (.int k m)) (hy : Ev l y (.int k n)) : Ys P C N l ⟨d, .binOp .eql t x y t', ty, ps, af, g⟩ (.bool (decide (m = n))) := yl_of fun a w hs _ => by
  simp only [execOp, hx N a hs, hy N a hs]; simp [go_sem]; rfl
theorem y_neq (hx : Ev l x (.int k m)) (hy : Ev l y (.int k n)) : Ys P C N l ⟨d, .binOp .neq t x y t', ty, ps, af, g⟩ (.bool (!decide (m = n))) := yl_of fun a w hs _ => by
  simp only [execOp, hx N a hs, hy N a hs]; simp [go_sem]; rfl
theorem y_beql {p q : Bool} (hx : Ev l x (.bool p)) (hy : Ev l y (.bool q)) (ht : P.underlying t = some .bool) : Ys P C N l ⟨d, .binOp .eql t x y t', ty, ps, af, g⟩ (.bool (p == q)) := yl_of fun a w hs _ => by
  simp only [execOp, hx N a hs, hy N a hs]; simp [go_sem, ht]
theorem y_bneq {p q : Bool} (hx : Ev l x (.bool p)) (hy : Ev l y (.bool q)) (ht : P.underlying t = some .bool) : Ys P C N l ⟨d, .binOp .neq t x y t', ty, ps, af, g⟩ (.bool (p != q)) := yl_of fun a w hs _ => by
  simp only [execOp, hx N a hs, hy N a hs]; simp [go_sem, ht]; cases p <;> cases q <;> rfl

def In64 (m : Int) : Prop := -9223372036854775808 ≤ m ∧ m ≤ 9223372036854775807
theorem wrap_in {m : Int} (h : In64 m) : IntKind.i64.wrap m = m := by
  have h1 := h.1; have h2 := h.2; rw [IntKind.wrap_i64]; omega
theorem y_add (hx : Ev l x (.int .i64 m)) (hy : Ev l y (.int .i64 n)) (h : In64 (m + n)) : Ys P C N l ⟨d, .binOp .add t x y t', ty, ps, af, g⟩ (.int .i64 (m + n)) := yl_of fun a w hs _ => by
  simp only [execOp, hx N a hs, hy N a hs]; simp [go_sem, Op.intArith, wrap_in h]
theorem y_sub (hx : Ev l x (.int .i64 m)) (hy : Ev l y (.int .i64 n)) (h : In64 (m - n)) : Ys P C N l ⟨d, .binOp .sub t x y t', ty, ps, af, g⟩ (.int .i64 (m - n)) := yl_of fun a w hs _ => by
  simp only [execOp, hx N a hs, hy N a hs]; simp [go_sem, Op.intArith, wrap_in h]
theorem y_mul (hx : Ev l x (.int .i64 m)) (hy : Ev l y (.int .i64 n)) (h : In64 (m * n)) : Ys P C N l ⟨d, .binOp .mul t x y t', ty, ps, af, g⟩ (.int .i64 (m * n)) := yl_of fun a w hs _ => by
  simp only [execOp, hx N a hs, hy N a hs]; simp [go_sem, Op.intArith, wrap_in h]
theorem y_neg (hx : Ev l x (.int .i64 m)) (h : In64 (-m)) : Ys P C N l ⟨d, .unOp .neg t x, ty, ps, af, g⟩ (.int .i64 (-m)) := yl_of fun a w hs _ => by
  simp only [execOp, hx N a hs]; simp [Op.unary, Op.intArith, go_sem, wrap_in h]
end

end Go.Proofs.Ytgnikdpgndmldaa
namespace Go.Proofs.Ytgnikdpgndmldaa
set_option linter.unusedVariables false
set_option linter.unusedSimpArgs false
open Go Go.RowKit

abbrev int (n : Int) : Value := .int .i64 n
abbrev ints (xs : List Int) : List Value := xs.map int

/-- The slice value v reads as these cells: n elements of sz cells. -/
def Rd (w : World) (v : Value) (sz n : Nat) (xs : List Value) : Prop :=
  xs.length = n * sz ∧ n ≤ maxLen ∧ ∃ A c, v = .slice A n c ∧ n ≤ c ∧ (A = none → c = 0) ∧
    (0 < n → ∃ ad, A = some ad ∧ ad.block < w.heap.size ∧ ∀ j u, xs[j]? = some u → w.cell? (ad.add j) = some u)

def RI (w : World) (v : Value) (xs : List Int) : Prop := Rd w v 1 xs.length (ints xs)

def RII (w : World) (v : Value) (us : List Value) (xss : List (List Int)) : Prop :=
  Rd w v 1 xss.length us ∧ us.length = xss.length ∧ ∀ i, i < xss.length → RI w (us.getD i undef) (xss.getD i [])

/-- A slice of a length. -/
def Ln (v : Value) (n : Nat) : Prop := ∃ A c, v = .slice A n c ∧ n ≤ maxLen
theorem Rd.ln {w : World} {v : Value} {sz n : Nat} {xs : List Value} (h : Rd w v sz n xs) : Ln v n := by
  obtain ⟨_, h2, A, c, h3, _⟩ := h
  exact ⟨A, c, h3, h2⟩

theorem Rd.keep {w w' : World} {v : Value} {sz n : Nat} {xs : List Value} (h : Rd w v sz n xs) (hs : w.heap.size ≤ w'.heap.size) (hk : ∀ k, k < w.heap.size → w'.heap[k]? = w.heap[k]?) : Rd w' v sz n xs := by
  obtain ⟨h1, h2, A, c, h3, h4, h5, h6⟩ := h
  refine ⟨h1, h2, A, c, h3, h4, h5, fun hn => ?_⟩
  obtain ⟨ad, e, hb, hc⟩ := h6 hn
  refine ⟨ad, e, by omega, fun j u hu => ?_⟩
  have hbl : (ad.add j).block = ad.block := by unfold Addr.add; split <;> rfl
  rw [World.cell?_of_block (w := w) (hk _ (by rw [hbl]; exact hb))]
  exact hc j u hu
theorem Rd.below {w w' : World} {v : Value} {sz n : Nat} {xs : List Value} (h : Rd w v sz n xs) (hb : Below w.heap.size w w') : Rd w' v sz n xs := h.keep hb.size hb.block
theorem RI.below {w w' : World} {v : Value} {xs : List Int} (h : RI w v xs) (hb : Below w.heap.size w w') : RI w' v xs := Rd.below h hb
theorem RII.below {w w' : World} {v : Value} {us : List Value} {xss : List (List Int)} (h : RII w v us xss) (hb : Below w.heap.size w w') : RII w' v us xss :=
  ⟨h.1.below hb, h.2.1, fun i hi => (h.2.2 i hi).below hb⟩
theorem rd_nil (w : World) (sz : Nat) : Rd w (.slice none 0 0) sz 0 [] := ⟨by simp, by simp [maxLen], none, 0, rfl, Nat.le_refl _, fun _ => rfl, fun h => absurd h (by omega)⟩
theorem ri_nil (w : World) : RI w (.slice none 0 0) [] := rd_nil w 1
theorem rii_nil (w : World) : RII w (.slice none 0 0) [] [] := ⟨rd_nil w 1, rfl, fun i hi => absurd hi (by simp)⟩

/-- The block of a slice that has room. -/
def obk : Value → Option Nat
  | .slice (some a) _ c => if c = 0 then none else some a.block
  | _ => none
/-- The slice value v owns its cells: it has no room at all, or it stands at the head of a block of the call's own. -/
def Own (w : World) (B : Nat) (e : TypeId) (sz : Nat) (v : Value) (n : Nat) (xs : List Value) : Prop :=
  xs.length = n * sz ∧ (((∃ A, v = .slice A 0 0) ∧ n = 0) ∨
    ∃ g cap cur, v = .slice (some ⟨g, 0, none⟩) n cap ∧ 0 < cap ∧ B ≤ g ∧ w.heap[g]? = some (.cells cur e (0, 0)) ∧ n ≤ cap ∧ cap ≤ maxLen ∧ cur.size = cap * sz ∧ cur.toList.take (n * sz) = xs)
theorem obk_zero (A : Option Addr) : obk (.slice A 0 0) = none := by cases A <;> rfl
theorem obk_own {v : Value} {k : Nat} (h : obk v = some k) : v.ownBlock = some k := by
  unfold obk at h
  split at h
  · split at h
    · cases h
    · exact h
  · cases h
theorem own_obk {g n cap : Nat} (h : 0 < cap) : obk (.slice (some ⟨g, 0, none⟩) n cap) = some g := by
  show (if cap = 0 then none else some g) = some g
  rw [if_neg (by omega)]
theorem Own.of {w : World} {B : Nat} {e : TypeId} {sz n : Nat} {v : Value} {xs : List Value} (h : w.ownsRow B e sz v n xs) : Own w B e sz v n xs := by
  refine ⟨h.1, ?_⟩
  rcases h.2 with ⟨rfl, rfl⟩ | ⟨g, cap, cur, rfl, hb, hg, hnc, rest⟩
  · exact .inl ⟨⟨none, rfl⟩, rfl⟩
  · rcases Nat.eq_zero_or_pos cap with h0 | h0
    · subst h0
      obtain rfl : n = 0 := by omega
      exact .inl ⟨⟨_, rfl⟩, rfl⟩
    · exact .inr ⟨g, cap, cur, rfl, h0, hb, hg, hnc, rest⟩
theorem Own.lt {w : World} {B : Nat} {e : TypeId} {sz n : Nat} {v : Value} {xs : List Value} (h : Own w B e sz v n xs) : ∀ k, obk v = some k → B ≤ k ∧ k < w.heap.size := by
  intro k hk
  rcases h.2 with ⟨⟨A, rfl⟩, _⟩ | ⟨g, cap, cur, rfl, h0, hb, hg, _⟩
  · rw [obk_zero] at hk; cases hk
  · rw [own_obk h0] at hk
    have := Option.some.inj hk
    subst this
    exact ⟨hb, (Array.getElem?_eq_some_iff.1 hg).1⟩
theorem Own.nil (w : World) (B : Nat) (e : TypeId) (sz : Nat) : Own w B e sz (.slice none 0 0) 0 [] := ⟨by simp, .inl ⟨⟨none, rfl⟩, rfl⟩⟩
theorem Own.keep {B : Nat} {w w' : World} {e : TypeId} {sz n : Nat} {v : Value} {xs : List Value} (h : Own w B e sz v n xs) (hk : ∀ k, obk v = some k → w'.heap[k]? = w.heap[k]?) : Own w' B e sz v n xs := by
  refine ⟨h.1, ?_⟩
  rcases h.2 with hn | ⟨g, cap, cur, rfl, h0, hb, hgg, rest⟩
  · exact .inl hn
  · exact .inr ⟨g, cap, cur, rfl, h0, hb, by rw [hk g (own_obk h0)]; exact hgg, rest⟩
theorem Own.base {B B' : Nat} {w : World} {e : TypeId} {sz n : Nat} {v : Value} {xs : List Value} (h : Own w B e sz v n xs) (hB : B' ≤ B) : Own w B' e sz v n xs := by
  refine ⟨h.1, ?_⟩
  rcases h.2 with hn | ⟨g, cap, cur, hv, h0, hb, rest⟩
  · exact .inl hn
  · exact .inr ⟨g, cap, cur, hv, h0, by omega, rest⟩

/-- What is owned. row: a slice at the head of a block of its own (or nil). blk: a block known whole. tab: a slice of rows of ints, each in a block of its own; 'hole': that row is told elsewhere. -/
inductive Ck where
  | row (v : Value) (e : TypeId) (sz n : Nat) (xs : List Value)
  | blk (g : Nat) (e : TypeId) (cs : List Value)
  | tab (v : Value) (e e' : TypeId) (us : List Value) (xss : List (List Int)) (hole : Option Nat)
  | objs (gs : List Nat) (R : List (Option Obj) → Prop)

abbrev rowI (e : TypeId) (v : Value) (zs : List Int) : Ck := .row v e 1 zs.length (ints zs)
abbrev strs (ss : List ByteArray) : List Value := ss.map Value.string
abbrev rowS (e : TypeId) (v : Value) (ss : List ByteArray) : Ck := .row v e 1 ss.length (strs ss)
abbrev tabI (e e' : TypeId) (v : Value) (us : List Value) (xss : List (List Int)) : Ck := .tab v e e' us xss none
/-- Nothing. -/
abbrev nilCk : Ck := .row (.slice none 0 0) 0 1 0 []

def Ck.foot : Ck → Nat → Prop
  | .row v _ _ _ _, k => obk v = some k
  | .blk g _ _, k => g = k
  | .tab v _ _ us _ h, k => obk v = some k ∨ ∃ i, i < us.length ∧ some i ≠ h ∧ obk (us.getD i undef) = some k
  | .objs gs _, k => k ∈ gs

def RowOk (B : Nat) (w : World) (e : TypeId) (u : Value) (ys : List Int) : Prop := Own w B e 1 u ys.length (ints ys)

def Ck.ok (B : Nat) (w : World) : Ck → Prop
  | .row v e sz n xs => Own w B e sz v n xs
  | .blk g e cs => B ≤ g ∧ w.heap[g]? = some (.cells cs.toArray e (0, 0))
  | .tab v e e' us xss h => Own w B e 1 v xss.length us ∧ us.length = xss.length ∧ (∀ i, i < us.length → some i ≠ h → RowOk B w e' (us.getD i undef) (xss.getD i [])) ∧
      ∀ i, i < us.length → ∀ k, obk (us.getD i undef) = some k → obk v ≠ some k ∧ ∀ j, j < us.length → j ≠ i → obk (us.getD j undef) ≠ some k
  | .objs gs R => (∀ g ∈ gs, B ≤ g ∧ g < w.heap.size) ∧ R (gs.map fun g => w.heap[g]?)

def Apart (c d : Ck) : Prop := ∀ k, c.foot k → ¬ d.foot k
theorem Apart.symm {c d : Ck} (h : Apart c d) : Apart d c := fun k hd hc => h k hc hd

/-- The class of worlds: old memory is as it was; these chunks are there, and apart. -/
def Hp (w0 : World) (os : List Ck) (w : World) : Prop :=
  Below w0.heap.size w0 w ∧ (∀ c ∈ os, c.ok w0.heap.size w) ∧ os.Pairwise Apart

theorem Hp.start (w : World) : Hp w [] w := ⟨Below.refl _ _, by simp, .nil⟩
theorem Hp.drew {w0 w : World} {os : List Ck} (h : Hp w0 os w) : Hp w0 os { w with drawn := w.drawn + 1 } := by
  refine ⟨⟨h.1.os, h.1.tape, h.1.output, h.1.size, h.1.block⟩, ?_, h.2.2⟩
  intro c hc
  have := h.2.1 c hc
  cases c <;> exact this
theorem Hp.sublist {w0 w : World} {os os' : List Ck} (h : Hp w0 os w) (hs : os'.Sublist os) : Hp w0 os' w :=
  ⟨h.1, fun c hc => h.2.1 c (hs.mem hc), h.2.2.sublist hs⟩
theorem Hp.perm {w0 w : World} {os os' : List Ck} (h : Hp w0 os w) (hs : os'.Perm os) : Hp w0 os' w :=
  ⟨h.1, fun c hc => h.2.1 c (hs.mem_iff.1 hc), h.2.2.perm hs.symm Apart.symm⟩

/-- The footprint lies in the world. -/
theorem Ck.ok.lt {B : Nat} {w : World} {c : Ck} (h : c.ok B w) : ∀ k, c.foot k → B ≤ k ∧ k < w.heap.size := by
  intro k hk
  cases c with
  | row v e sz n xs => exact Own.lt h k hk
  | blk g e cs =>
    have : g = k := hk
    subst this
    exact ⟨h.1, by
      rcases Nat.lt_or_ge g w.heap.size with h' | h'
      · exact h'
      · have := h.2; rw [Array.getElem?_eq_none h'] at this; cases this⟩
  | tab v e e' us xss hole =>
    rcases hk with hk | ⟨i, hi, hne, hk⟩
    · exact Own.lt h.1 k hk
    · exact Own.lt (h.2.2.1 i hi hne) k hk
  | objs gs R => exact h.1 k hk

/-- A chunk stays where the blocks of its footprint stay. -/
theorem Ck.ok.keep {B : Nat} {w w' : World} {c : Ck} (h : c.ok B w) (hk : ∀ k, c.foot k → w'.heap[k]? = w.heap[k]?) : c.ok B w' := by
  cases c with
  | row v e sz n xs => exact Own.keep h hk
  | blk g e cs => exact ⟨h.1, by rw [hk g rfl]; exact h.2⟩
  | tab v e e' us xss hole => exact ⟨Own.keep h.1 fun k hv => hk k (.inl hv), h.2.1, fun i hi hne => Own.keep (h.2.2.1 i hi hne) fun k hu => hk k (.inr ⟨i, hi, hne, hu⟩), h.2.2.2⟩
  | objs gs R =>
    refine ⟨fun g hg => ⟨(h.1 g hg).1, ?_⟩, ?_⟩
    · have h1 := (h.1 g hg).2
      have h2 := hk g hg
      rw [Array.getElem?_eq_getElem h1] at h2
      exact (Array.getElem?_eq_some_iff.1 h2).1
    · have e : (gs.map fun g => w'.heap[g]?) = gs.map fun g => w.heap[g]? := List.map_congr_left fun g hg => hk g hg
      rw [e]; exact h.2
theorem Ck.ok.base {B B' : Nat} {w : World} {c : Ck} (h : c.ok B w) (hB : B' ≤ B) : c.ok B' w := by
  cases c with
  | row v e sz n xs => exact Own.base h hB
  | blk g e cs => exact ⟨by have := h.1; omega, h.2⟩
  | tab v e e' us xss hole => exact ⟨Own.base h.1 hB, h.2.1, fun i hi hne => Own.base (h.2.2.1 i hi hne) hB, h.2.2.2⟩
  | objs gs R => exact ⟨fun g hg => ⟨Nat.le_trans hB (h.1 g hg).1, (h.1 g hg).2⟩, h.2⟩

/-- What a world owns of a later class is owned after the call: a callee's chunks come ahead of the caller's. -/
theorem Hp.after {w0 w w' : World} {os rs : List Ck} (h : Hp w0 os w) (h' : Hp w rs w') : Hp w0 (rs ++ os) w' := by
  have hsz := h.1.size
  refine ⟨h.1.trans (h'.1.mono hsz), ?_, ?_⟩
  · intro c hc
    rcases List.mem_append.1 hc with hc | hc
    · exact (h'.2.1 c hc).base hsz
    · exact (h.2.1 c hc).keep fun k hk => h'.1.block k ((h.2.1 c hc).lt k hk).2
  · rw [List.pairwise_append]
    refine ⟨h'.2.2, h.2.2, fun c hc d hd k hk hk' => ?_⟩
    have h1 := ((h'.2.1 c hc).lt k hk).1
    have h2 := ((h.2.1 d hd).lt k hk').2
    omega
theorem Hp.after0 {w0 w w' : World} {os : List Ck} (h : Hp w0 os w) (h' : Hp w [] w') : Hp w0 os w' := by simpa using h.after h'

/-- One chunk gives way to another whose blocks are its own or new; only its blocks have turned. -/
theorem Hp.turn {w0 w w' : World} {c c' : Ck} {os : List Ck} (h : Hp w0 (c :: os) w) (ho : w'.os = w.os) (ht : w'.tape = w.tape) (hu : w'.output = w.output)
    (hs : w.heap.size ≤ w'.heap.size) (hk : ∀ k, k < w.heap.size → ¬ c.foot k → w'.heap[k]? = w.heap[k]?) (hc : c'.ok w0.heap.size w') (hf : ∀ k, c'.foot k → c.foot k ∨ w.heap.size ≤ k) :
    Hp w0 (c' :: os) w' := by
  have hp := List.pairwise_cons.1 h.2.2
  have h0 := h.2.1 c (by simp)
  refine ⟨⟨ho.trans h.1.os, ht.trans h.1.tape, hu.trans h.1.output, Nat.le_trans h.1.size hs, fun k hkk => ?_⟩, ?_, ?_⟩
  · rw [hk k (Nat.lt_of_lt_of_le hkk h.1.size) (fun hf => by have := (h0.lt k hf).1; omega)]
    exact h.1.block k hkk
  · intro d hd
    rcases List.mem_cons.1 hd with rfl | hd
    · exact hc
    · have h1 := h.2.1 d (by simp [hd])
      exact h1.keep fun k hk' => hk k (h1.lt k hk').2 (fun hc => hp.1 d hd k hc hk')
  · refine List.pairwise_cons.2 ⟨fun d hd k hk1 hk2 => ?_, hp.2⟩
    rcases hf k hk1 with h1 | h1
    · exact hp.1 d hd k h1 hk2
    · have := ((h.2.1 d (by simp [hd])).lt k hk2).2
      omega

/-- A new chunk in new blocks. -/
theorem Hp.new {w0 w w' : World} {c : Ck} {os : List Ck} (h : Hp w0 os w) (hb : Below w.heap.size w w') (hc : c.ok w.heap.size w') : Hp w0 (c :: os) w' :=
  h.after (rs := [c]) ⟨hb, by simpa using hc, by simp⟩

/-- Nothing is owned of nil. -/
theorem Hp.nil {w0 w : World} {os : List Ck} (h : Hp w0 os w) (e : TypeId) (sz : Nat) : Hp w0 (.row (.slice none 0 0) e sz 0 [] :: os) w :=
  h.new (Below.refl _ _) (Own.nil _ _ _ _)
theorem Hp.nilTab {w0 w : World} {os : List Ck} (h : Hp w0 os w) (e e' : TypeId) : Hp w0 (.tab (.slice none 0 0) e e' [] [] none :: os) w :=
  h.new (Below.refl _ _) ⟨Own.nil _ _ _ _, rfl, fun i hi => absurd hi (by simp), fun i hi => absurd hi (by simp)⟩

theorem Hp.alloc {w0 w : World} {os : List Ck} (h : Hp w0 os w) (cs : Array Value) (e : TypeId) : Hp w0 (.blk w.heap.size e cs.toList :: os) (w.alloc (.cells cs e)) :=
  h.new ((Below.refl _ _).alloc (Nat.le_refl _) _) ⟨Nat.le_refl _, by simpa using heap_alloc_new w (.cells cs e)⟩

/-- What is owned reads. -/
theorem rd_own {B : Nat} {w : World} {e : TypeId} {sz n : Nat} {v : Value} {xs : List Value} (h : Own w B e sz v n xs) : Rd w v sz n xs := by
  rcases h.2 with ⟨⟨A, rfl⟩, rfl⟩ | ⟨g, cap, cur, rfl, h0, hb, hg, hnc, hcm, hcs, ht⟩
  · exact ⟨by simpa using h.1, by simp [maxLen], A, 0, rfl, Nat.le_refl _, fun _ => rfl, fun hh => absurd hh (by omega)⟩
  · have hr : w.ownsRow B e sz (.slice (some ⟨g, 0, none⟩) n cap) n xs := ⟨h.1, .inr ⟨g, cap, cur, rfl, hb, hg, hnc, hcm, hcs, ht⟩⟩
    refine ⟨h.1, Nat.le_trans hnc hcm, some ⟨g, 0, none⟩, cap, rfl, hnc, by simp, fun _ => ⟨_, rfl, ?_, hr.cells (g := g) rfl⟩⟩
    exact (Array.getElem?_eq_some_iff.1 hg).1

section
variable {w0 : World} {os : List Ck} {v : Value}
theorem Hp.get {w : World} (h : Hp w0 os w) (i : Nat) {c : Ck} (hi : os[i]? = some c) : c.ok w0.heap.size w := h.2.1 c (List.mem_of_getElem? hi)
theorem rd_arg {sz n : Nat} {xs : List Value} (h : Rd w0 v sz n xs) : ∀ w, Hp w0 os w → Rd w v sz n xs := fun _ hw => h.below hw.1
theorem ri_arg {xs : List Int} (h : RI w0 v xs) : ∀ w, Hp w0 os w → RI w v xs := fun _ hw => h.below hw.1
theorem rii_arg {us : List Value} {xss : List (List Int)} (h : RII w0 v us xss) : ∀ w, Hp w0 os w → RII w v us xss := fun _ hw => h.below hw.1
theorem rd_row (i : Nat) {e : TypeId} {sz n : Nat} {xs : List Value} (hi : os[i]? = some (.row v e sz n xs)) : ∀ w, Hp w0 os w → Rd w v sz n xs := fun _ hw => rd_own (hw.get i hi)
theorem ri_row (i : Nat) {e : TypeId} {xs : List Int} (hi : os[i]? = some (.row v e 1 xs.length (ints xs))) : ∀ w, Hp w0 os w → RI w v xs := fun _ hw => rd_own (hw.get i hi)
theorem ri_tab (i : Nat) {e e' : TypeId} {us : List Value} {xss : List (List Int)} (j : Nat) (hi : os[i]? = some (.tab v e e' us xss none)) (hj : j < xss.length) : ∀ w, Hp w0 os w → RI w (us.getD j undef) (xss.getD j []) :=
  fun _ hw => by
    have h := hw.get i hi
    exact rd_own (h.2.2.1 j (by rw [h.2.1]; exact hj) (by simp))
theorem rii_tab (i : Nat) {e e' : TypeId} {us : List Value} {xss : List (List Int)} (hi : os[i]? = some (.tab v e e' us xss none)) : ∀ w, Hp w0 os w → RII w v us xss :=
  fun _ hw => by
    have h := hw.get i hi
    exact ⟨rd_own h.1, h.2.1, fun k hk => rd_own (h.2.2.1 k (by rw [h.2.1]; exact hk) (by simp))⟩
end

theorem RII.row {w : World} {v : Value} {us : List Value} {xss : List (List Int)} (h : RII w v us xss) {i : Nat} (hi : i < xss.length) : RI w (us.getD i undef) (xss.getD i []) := h.2.2 i hi

end Go.Proofs.Ytgnikdpgndmldaa
namespace Go.Proofs.Ytgnikdpgndmldaa
set_option linter.unusedVariables false
set_option linter.unusedSimpArgs false
open Go Go.RowKit

section
variable {P : Program} {ops : Array Oper} {Q : Exit → Act → World → Prop} {N : Nat} {C : World → Prop} {rest : List Oper} {l : Sl} {o : Oper} {v : Value} {d : Nat}

def TL (P : Program) (ops : Array Oper) (Q : Exit → Act → World → Prop) (N : Nat) (C : World → Prop) (rest : List Oper) (l : Sl) : Prop := ∀ a w, Slots N l a → C w → wpList P ops Q rest a w
def TQ (P : Program) (ops : Array Oper) (Qa : Act → Prop) (N : Nat) (C : World → Prop) (rest : List Oper) (l : Sl) : Prop := ∀ a, Slots N l a → wpQuiet P ops C Qa rest a
def TC (P : Program) (c : Code) (Q : Exit → Act → World → Prop) (N : Nat) (C : World → Prop) (l : Sl) : Prop := ∀ a w, Slots N l a → C w → c.wp P Q a w
def TN (Q : Exit → Act → World → Prop) (e : Exit) (N : Nat) (C : World → Prop) (l : Sl) : Prop := ∀ a w, Slots N l a → C w → Q e a w

theorem TL.op (hy : Yl P C N l o v) (hd : o.dst = some d) (hb : Nat.blt d N = true) (hg : o.guard = none) (h : TL P ops Q N C rest ((d, v) :: l)) : TL P ops Q N C (o :: rest) l := by
  intro a w hs hc
  refine wpList_plain hg fun K hK => ?_
  refine Oper.wp_of_quiet (K := fun a' => Slots N ((d, v) :: l) a') hc (fun a' w' hc' hs' => hK _ _ (h a' w' hs' hc')) ⟨v, fun w' hw' => hy a w' hs hw', ?_⟩
  rw [hd]; exact hs.put hb v
theorem TL.opw {G : Bool} (hw : ∀ a, Slots N l a → Region.wanted o (yielded ops a.tmps) = G) (hy : G = true → Yl P C N l o v) (hd : o.dst = some d) (hb : Nat.blt d N = true)
    (h : TL P ops Q N C rest ((d, gd G v) :: l)) : TL P ops Q N C (o :: rest) l := by
  intro a w hs hc
  refine wpList_step fun K hK => ?_
  rw [hw a hs]
  cases G with
  | true =>
    refine Oper.wp_of_quiet (K := fun a' => Slots N ((d, gd true v) :: l) a') hc (fun a' w' hc' hs' => hK _ _ (h a' w' hs' hc')) ⟨v, fun w' hw' => hy rfl a w' hs hw', ?_⟩
    rw [hd]; exact hs.put hb v
  | false =>
    simp only [Bool.false_eq_true, if_false]
    refine hK _ _ (h _ _ ?_ hc)
    rw [hd]; exact hs.put hb undef
theorem Slots.again {t : Nat} {u : Value} {a : Act} (hs : Slots N l a) (hl : look l t = some u) : Slots N ((t, u) :: l) a :=
  ⟨hs.size, hs.defers, fun i v hi => by
    rw [look_cons] at hi
    by_cases e : t = i
    · subst e; rw [if_pos rfl] at hi; have := Option.some.inj hi; subst this; exact hs.at_ _ _ hl
    · rw [if_neg e] at hi; exact hs.at_ i v hi⟩
/-- Two ways from here on. -/
theorem TL.split (t : Nat) {b : Bool} (hl : look l t = some (.bool b)) (ht : b = true → TL P ops Q N C rest ((t, .bool true) :: l)) (hf : b = false → TL P ops Q N C rest ((t, .bool false) :: l)) : TL P ops Q N C rest l := fun a w hs hc => by
  cases b with
  | true => exact ht rfl a w (hs.again hl) hc
  | false => exact hf rfl a w (hs.again hl) hc
theorem TL.ung (hw : ∀ a, Slots N l a → Region.wanted o (yielded ops a.tmps) = true) (h : TL P ops Q N C ({ o with guard := none } :: rest) l) : TL P ops Q N C (o :: rest) l := by
  intro a w hs hc
  have h1 := h a w hs hc
  unfold wpList at *
  rw [if_pos (by simp [Region.wanted])] at h1
  rw [if_pos (hw a hs)]
  exact h1
theorem y_pickT {c x y : Operand} {d : Option Tmp} {ty : TypeId} {ps : String} {af : Array Edge} {g : Option (Nat × Bool)} (hc : Ev l c (.bool true)) (hx : Ev l x v) : Ys P C N l ⟨d, .pick c x y, ty, ps, af, g⟩ v := y_pick hc (fun _ => hx) (fun h => by cases h)
theorem y_pickF {c x y : Operand} {d : Option Tmp} {ty : TypeId} {ps : String} {af : Array Edge} {g : Option (Nat × Bool)} (hc : Ev l c (.bool false)) (hy : Ev l y v) : Ys P C N l ⟨d, .pick c x y, ty, ps, af, g⟩ v := y_pick hc (fun h => by cases h) (fun _ => hy)
theorem TQ.op {Qa : Act → Prop} (hy : Yl P C N l o v) (hd : o.dst = some d) (hb : Nat.blt d N = true) (hg : o.guard = none) (h : TQ P ops Qa N C rest ((d, v) :: l)) : TQ P ops Qa N C (o :: rest) l := by
  intro a hs
  unfold wpQuiet
  rw [if_pos (by simp [Region.wanted, hg])]
  refine ⟨v, fun w' hw' => hy a w' hs hw', h _ ?_⟩
  rw [hd]; exact hs.put hb v
theorem TQ.opw {Qa : Act → Prop} {G : Bool} (hw : ∀ a, Slots N l a → Region.wanted o (yielded ops a.tmps) = G) (hy : G = true → Yl P C N l o v) (hd : o.dst = some d) (hb : Nat.blt d N = true)
    (h : TQ P ops Qa N C rest ((d, gd G v) :: l)) : TQ P ops Qa N C (o :: rest) l := by
  intro a hs
  unfold wpQuiet
  rw [hw a hs]
  cases G with
  | true =>
    rw [if_pos rfl]
    refine ⟨v, fun w' hw' => hy rfl a w' hs hw', h _ ?_⟩
    rw [hd]; exact hs.put hb v
  | false =>
    rw [if_neg (by simp)]
    refine h _ ?_
    rw [hd]; exact hs.put hb undef

theorem yielded_gd {j t : Nat} {G b : Bool} {a : Act} (hj : (ops[j]?).bind (·.dst) = some t) (hl : look l t = some (gd G (.bool b))) (hs : Slots N l a) : yielded ops a.tmps j = if G then some b else none := by
  obtain ⟨h1, h2⟩ := hs.at_ t _ hl
  have h3 : a.tmps[t]? = some (gd G (.bool b)) := by
    have : t < a.tmps.size := by rw [hs.size]; exact h1
    rw [← h2]; simp [this]
  unfold yielded
  rw [hj]
  simp only [Option.bind_some, h3]
  cases G <;> simp [gd, undef]
theorem w_t {j t : Nat} {b : Bool} (hg : o.guard = some (j, true)) (hj : (ops[j]?).bind (·.dst) = some t) (hl : look l t = some (.bool b)) : ∀ a, Slots N l a → Region.wanted o (yielded ops a.tmps) = b := fun a hs => by
  have := yielded_gd (G := true) hj hl hs
  simp only [Region.wanted, hg, this]; cases b <;> rfl
theorem w_f {j t : Nat} {b : Bool} (hg : o.guard = some (j, false)) (hj : (ops[j]?).bind (·.dst) = some t) (hl : look l t = some (.bool b)) : ∀ a, Slots N l a → Region.wanted o (yielded ops a.tmps) = !b := fun a hs => by
  have := yielded_gd (G := true) hj hl hs
  simp only [Region.wanted, hg, this]; cases b <;> rfl
theorem w_gt {j t : Nat} {G b : Bool} (hg : o.guard = some (j, true)) (hj : (ops[j]?).bind (·.dst) = some t) (hl : look l t = some (gd G (.bool b))) : ∀ a, Slots N l a → Region.wanted o (yielded ops a.tmps) = (G && b) := fun a hs => by
  have := yielded_gd hj hl hs
  simp only [Region.wanted, hg, this]; cases G <;> cases b <;> rfl
theorem w_gf {j t : Nat} {G b : Bool} (hg : o.guard = some (j, false)) (hj : (ops[j]?).bind (·.dst) = some t) (hl : look l t = some (gd G (.bool b))) : ∀ a, Slots N l a → Region.wanted o (yielded ops a.tmps) = (G && !b) := fun a hs => by
  have := yielded_gd hj hl hs
  simp only [Region.wanted, hg, this]; cases G <;> cases b <;> rfl

theorem TL.nil (h : TN Q .normal N C l) : TL P ops Q N C [] l := fun a w hs hc => h a w hs hc
theorem TQ.nil (h : TN Q .normal N C l) : TQ P ops (fun a' => ∀ w', C w' → Q .normal a' w') N C [] l := fun a hs w hc => h a w hs hc
theorem TL.raw (hg : o.guard = none) (h : ∀ a w, Slots N l a → C w → o.wp P a w (wpList P ops Q rest) Q) : TL P ops Q N C (o :: rest) l := by
  intro a w hs hc
  unfold wpList
  rw [if_pos (by simp [Region.wanted, hg])]
  exact .inl (h a w hs hc)

theorem TC.region {id : Nat} {os : List Oper} (h : TL P os.toArray Q N C os l) : TC P (.region id os.toArray false) Q N C l := fun a w hs hc => wp_region_lit (h a w hs hc)
/-- Such a class is closed under draws. -/
def Dr (C : World → Prop) : Prop := ∀ w, C w → C { w with drawn := w.drawn + 1 }
theorem TC.regionQ {id : Nat} {os : List Oper} (hm : P.follows .mixedOrders = true) (hB : Region.lexB .any os.toArray = true) (hC : Dr C)
    (h : TQ P os.toArray (fun a' => ∀ w', C w' → Q .normal a' w') N C os l) : TC P (.region id os.toArray true) Q N C l := fun a w hs hc =>
  wp_region_quiet hm hB (hC w hc) (by simpa using h a hs)
theorem dr_hp {w0 : World} {os : List Ck} : Dr (Hp w0 os) := fun _ h => h.drew

theorem TC.seq {x y : Code} (h : TC P x (Exit.then (y.wp P Q) Q) N C l) : TC P (.seq x y) Q N C l := fun a w hs hc => wp_seq (h a w hs hc)
theorem TC.skip (h : TN Q .normal N C l) : TC P .skip Q N C l := fun a w hs hc => wp_skip (h a w hs hc)
theorem TC.ret (h : TN Q .ret N C l) : TC P .ret Q N C l := fun a w hs hc => wp_ret (h a w hs hc)
theorem TC.exit {id : Nat} (h : TN Q (.exit id) N C l) : TC P (.exit id) Q N C l := fun a w hs hc => wp_exit (h a w hs hc)
theorem TC.block {id : Nat} {c : Code} (h : TC P c (Exit.inBlock id Q) N C l) : TC P (.block id c) Q N C l := fun a w hs hc => wp_block (h a w hs hc)
theorem TC.cond {x : Operand} {b : Bool} {c1 c2 : Code} (hx : Ev l x (.bool b)) (ht : b = true → TC P c1 Q N C l) (hf : b = false → TC P c2 Q N C l) : TC P (.cond x c1 c2) Q N C l := fun a w hs hc =>
  wp_cond_split (hx N a hs) (fun hb => ht hb a w hs hc) (fun hb => hf hb a w hs hc)

theorem TC.condT {x : Operand} {b : Bool} {c1 c2 : Code} (hx : Ev l x (.bool b)) (hb : b = true) (ht : TC P c1 Q N C l) : TC P (.cond x c1 c2) Q N C l := TC.cond hx (fun _ => ht) (fun h => by rw [hb] at h; cases h)
theorem TC.condF {x : Operand} {b : Bool} {c1 c2 : Code} (hx : Ev l x (.bool b)) (hb : b = false) (hf : TC P c2 Q N C l) : TC P (.cond x c1 c2) Q N C l := TC.cond hx (fun h => by rw [hb] at h; cases h) (fun _ => hf)
theorem TN.seq {y : Code} (h : TC P y Q N C l) : TN (Exit.then (y.wp P Q) Q) .normal N C l := h
theorem TN.thenR {K : Act → World → Prop} (h : TN Q .ret N C l) : TN (Exit.then K Q) .ret N C l := h
theorem TN.thenE {K : Act → World → Prop} {id : Nat} (h : TN Q (.exit id) N C l) : TN (Exit.then K Q) (.exit id) N C l := h
theorem TN.blockN {id : Nat} (h : TN Q .normal N C l) : TN (Exit.inBlock id Q) .normal N C l := h
theorem TN.blockR {id : Nat} (h : TN Q .ret N C l) : TN (Exit.inBlock id Q) .ret N C l := h
theorem TN.blockH {id : Nat} (h : TN Q .normal N C l) : TN (Exit.inBlock id Q) (.exit id) N C l := fun a w hs hc => by
  show (if id = id then Q .normal a w else Q (.exit id) a w); rw [if_pos rfl]; exact h a w hs hc
theorem TN.blockM {id id' : Nat} (hne : Nat.beq id' id = false) (h : TN Q (.exit id') N C l) : TN (Exit.inBlock id Q) (.exit id') N C l := fun a w hs hc => by
  show (if id' = id then Q .normal a w else Q (.exit id') a w); rw [if_neg (by intro e; subst e; simp at hne)]; exact h a w hs hc

/-- The slots that count; a wider class. -/
theorem TC.norm (l' : Sl) {c : Code} (hs : Subl l' l) (h : TC P c Q N C l') : TC P c Q N C l := fun a w h1 h2 => h a w (h1.sub hs) h2
theorem TC.cls {C' : World → Prop} {c : Code} (hc : ∀ w, C w → C' w) (h : TC P c Q N C' l) : TC P c Q N C l := fun a w h1 h2 => h a w h1 (hc w h2)
theorem TL.cls {C' : World → Prop} (hc : ∀ w, C w → C' w) (h : TL P ops Q N C' rest l) : TL P ops Q N C rest l := fun a w h1 h2 => h a w h1 (hc w h2)
theorem TN.cls {e : Exit} {C' : World → Prop} (hc : ∀ w, C w → C' w) (h : TN Q e N C' l) : TN Q e N C l := fun a w h1 h2 => h a w h1 (hc w h2)
theorem TN.norm {e : Exit} (l' : Sl) (hs : Subl l' l) (h : TN Q e N C l') : TN Q e N C l := fun a w h1 h2 => h a w (h1.sub hs) h2
theorem TL.ex {ι : Type} {D : ι → World → Prop} (h : ∀ i, TL P ops Q N (D i) rest l) : TL P ops Q N (fun w => ∃ i, D i w) rest l := fun a w hs ⟨i, hi⟩ => h i a w hs hi
theorem TL.pr {p : Prop} (h : p → TL P ops Q N C rest l) : TL P ops Q N (fun w => p ∧ C w) rest l := fun a w hs hc => h hc.1 a w hs hc.2
theorem TC.ex {ι : Type} {D : ι → World → Prop} {c : Code} (h : ∀ i, TC P c Q N (D i) l) : TC P c Q N (fun w => ∃ i, D i w) l := fun a w hs ⟨i, hi⟩ => h i a w hs hi
theorem TC.pr {p : Prop} {c : Code} (h : p → TC P c Q N C l) : TC P c Q N (fun w => p ∧ C w) l := fun a w hs hc => h hc.1 a w hs hc.2

/-- Ways that meet again: each comes to what R says. -/
theorem TC.cut {x y : Code} (R : Act → World → Prop) (h : TC P x (Exit.then R Q) N C l) (h2 : ∀ a w, R a w → y.wp P Q a w) : TC P (.seq x y) Q N C l := fun a w hs hc =>
  wp_seq (Code.wp_mono (fun e a' w' q => by cases e <;> first | exact h2 _ _ q | exact q) (h a w hs hc))

/-! loops -/
def Hand {ι : Type} (μ : ι → Nat) (J : ι → Prop) (L : ι → Sl) (D : ι → World → Prop) (N : Nat) (i : ι) : Act → World → Prop := fun a w => ∃ j, J j ∧ μ j < μ i ∧ Slots N (L j) a ∧ D j w
theorem TC.loop {ι : Type} {c : Code} (L : ι → Sl) (D : ι → World → Prop) (J : ι → Prop) (μ : ι → Nat) (i0 : ι) (hJ : J i0) (hS : Subl (L i0) l) (hC : ∀ w, C w → D i0 w)
    (round : ∀ i, J i → TC P c (Exit.then (Hand μ J L D N i) Q) N (D i) (L i)) : TC P (.loop c) Q N C l := by
  intro a w hs hc
  refine wp_loop_ghost (fun n a w => ∃ i, J i ∧ μ i = n ∧ Slots N (L i) a ∧ D i w) (μ i0) ⟨i0, hJ, rfl, hs.sub hS, hC w hc⟩ ?_
  rintro n a w ⟨i, hi, rfl, h1, h2⟩
  refine Code.wp_mono (fun e a' w' q => ?_) (round i hi a w h1 h2)
  cases e with
  | normal => obtain ⟨j, hj, hlt, h3, h4⟩ := q; exact ⟨μ j, hlt, j, hj, rfl, h3, h4⟩
  | _ => exact q
theorem TN.hand {ι : Type} {μ : ι → Nat} {J : ι → Prop} {L : ι → Sl} {D : ι → World → Prop} {i : ι} (j : ι) (hJ : J j) (hμ : μ j < μ i) (hS : Subl (L j) l) (hC : ∀ w, C w → D j w) :
    TN (Exit.then (Hand μ J L D N i) Q) .normal N C l := fun _ w hs hc => ⟨j, hJ, hμ, hs.sub hS, hC w hc⟩

/-! entering and leaving a function -/
def nums : Nat → List Value → Sl
  | _, [] => []
  | i, v :: vs => (i, v) :: nums (i + 1) vs
theorem look_nums : ∀ (vs : List Value) (i j : Nat) (u : Value), look (nums i vs) j = some u → i ≤ j ∧ vs[j - i]? = some u
  | [], _, _, _, h => by simp [nums, look] at h
  | v :: vs, i, j, u, h => by
    simp only [nums, look_cons] at h
    by_cases e : i = j
    · subst e
      rw [if_pos rfl] at h
      exact ⟨Nat.le_refl _, by simpa using h⟩
    · rw [if_neg e] at h
      obtain ⟨h1, h2⟩ := look_nums vs (i + 1) j u h
      refine ⟨by omega, ?_⟩
      rw [show j - i = (j - (i + 1)) + 1 by omega]
      simpa using h2
theorem calls_tc {f : FuncId} {fn : Func} {c : Code} {args : List Value} {w : World} {R : Ending → World → Prop} (hf : P.funcs[f]? = some fn) (hb : fn.body = some c) (hN : fn.ntmps = N)
    (ha : Nat.ble args.length N = true) (h : TC P c (bodyPost P fn R) N (Hp w []) (nums 0 args)) : Calls P f args.toArray w R := by
  refine calls_of_wp hf hb (h _ _ ?_ (Hp.start w))
  have ha' : args.length ≤ N := Nat.le_of_ble_eq_true ha
  refine ⟨by simp [hN]; omega, rfl, ?_⟩
  intro i v hi
  obtain ⟨_, h2⟩ := look_nums args 0 i v hi
  simp only [Nat.sub_zero] at h2
  have hlt : i < args.length := (List.getElem?_eq_some_iff.1 h2).1
  refine ⟨by omega, ?_⟩
  have h3 : args[i] = v := (List.getElem?_eq_some_iff.1 h2).2
  simp [Array.getElem?_append, hlt, h3]

/-- What a call hands back. -/
def Ret (v : Value) (D : World → Prop) : Ending → World → Prop := fun e w' => e = .returned v ∧ D w'

theorem TN.ret1 {fn : Func} {R : Ending → World → Prop} {t : Nat} (hr : fn.results = #[.tmp t]) (hv : Ev l (.tmp t) v) (h : ∀ w, C w → R (.returned v) w) : TN (bodyPost P fn R) .ret N C l := fun a w hs hc =>
  ⟨hs.defers, v, by rw [results_tmp hr]; congr 1; exact hv N a hs, h w hc⟩
theorem TN.ret2 {fn : Func} {R : Ending → World → Prop} {t u : Nat} {v' : Value} (hr : fn.results = #[.tmp t, .tmp u]) (hv : Ev l (.tmp t) v) (hv' : Ev l (.tmp u) v') (h : ∀ w, C w → R (.returned (.tuple #[v, v'])) w) : TN (bodyPost P fn R) .ret N C l := fun a w hs hc =>
  ⟨hs.defers, .tuple #[v, v'], by rw [results_tmp2 hr]; have h1 := hv N a hs; have h2 := hv' N a hs; simp only [Act.eval] at h1 h2; rw [h1, h2], h w hc⟩
theorem TN.ret3 {fn : Func} {R : Ending → World → Prop} {t u s : Nat} {v' v'' : Value} (hr : fn.results = #[.tmp t, .tmp u, .tmp s]) (hv : Ev l (.tmp t) v) (hv' : Ev l (.tmp u) v') (hv'' : Ev l (.tmp s) v'') (h : ∀ w, C w → R (.returned (.tuple #[v, v', v''])) w) : TN (bodyPost P fn R) .ret N C l := fun a w hs hc =>
  ⟨hs.defers, .tuple #[v, v', v''], by
    have h1 := hv N a hs; have h2 := hv' N a hs; have h3 := hv'' N a hs; simp only [Act.eval] at h1 h2 h3
    simp [results, hr, ← h1, ← h2, ← h3], h w hc⟩

/-! calls -/
/-- Function k has a body, and is entered. -/
def En (P : Program) (k : FuncId) : Prop := ∀ args w, (callFunc k args).run P w = .ok (.enter k args) w
theorem en_of {k : FuncId} {fn : Func} (h : P.funcs[k]? = some fn) (hn : (fn.name == "runtime.NumGoroutine") = false) (hb : fn.body.isNone = false) : En P k := fun args w => by
  have hn' : ¬ fn.name = "runtime.NumGoroutine" := by simpa using hn
  have hb' : ¬ fn.body = none := by intro e; rw [e] at hb; simp at hb
  simp [callFunc, h, hn', hb']

variable {ty : TypeId} {ps : String} {af : Array Edge} {g : Option (Nat × Bool)} {k : FuncId} {xs : List Operand} {vs : List Value} {ats : Array TypeId}

theorem run_call {a : Act} {w : World} {dd : Option Tmp} (he : En P k) (hv : Evs l xs vs) (hs : Slots N l a) :
    (execOp a.eval ⟨dd, .call { callee := .value (.func k), args := xs.toArray, argTypes := ats }, ty, ps, af, g⟩).run P w = .ok (.enter k vs.toArray) w := by
  have h1 : execOp a.eval ⟨dd, .call { callee := .value (.func k), args := xs.toArray, argTypes := ats }, ty, ps, af, g⟩ = callFunc k vs.toArray := by
    have := hv.eq N a hs
    simp [execOp, resolve, Deferred.ofValue, invoke, Act.eval, this]
  rw [h1]; exact he _ _
theorem run_callv {a : Act} {w : World} {dd : Option Tmp} {t : Nat} {cap : List Value} (he : En P k) (hf : Ev l (.tmp t) (.func (.func k) #[] cap.toArray)) (hv : Evs l xs vs) (hs : Slots N l a) :
    (execOp a.eval ⟨dd, .call { callee := .value (.tmp t), args := xs.toArray, argTypes := ats }, ty, ps, af, g⟩).run P w = .ok (.enter k (vs ++ cap).toArray) w := by
  have h1 : execOp a.eval ⟨dd, .call { callee := .value (.tmp t), args := xs.toArray, argTypes := ats }, ty, ps, af, g⟩ = callFunc k (vs ++ cap).toArray := by
    have := hv.eq N a hs
    simp [execOp, resolve, Deferred.ofValue, invoke, hf N a hs, this]
  rw [h1]; exact he _ _

variable {w0 : World} {os : List Ck} {dd : Option Tmp}
/-- A call that hands back one value in every world of the class, and owns nothing. -/
theorem y_call (he : En P k) (hv : Evs l xs vs) (hc : ∀ w, Hp w0 os w → Calls P k vs.toArray w (Ret v (Hp w []))) :
    Yl P (Hp w0 os) N l ⟨dd, .call { callee := .value (.func k), args := xs.toArray, argTypes := ats }, ty, ps, af, g⟩ v := fun a w hs hw => by
  rw [run_call he hv hs]
  exact ⟨rfl, (hc w hw).mono fun e w' ⟨h1, h2⟩ => ⟨h1, hw.after0 h2⟩⟩
theorem y_callv {t : Nat} {cap : List Value} (he : En P k) (hf : Ev l (.tmp t) (.func (.func k) #[] cap.toArray)) (hv : Evs l xs vs) (hc : ∀ w, Hp w0 os w → Calls P k (vs ++ cap).toArray w (Ret v (Hp w []))) :
    Yl P (Hp w0 os) N l ⟨dd, .call { callee := .value (.tmp t), args := xs.toArray, argTypes := ats }, ty, ps, af, g⟩ v := fun a w hs hw => by
  rw [run_callv he hf hv hs]
  exact ⟨rfl, (hc w hw).mono fun e w' ⟨h1, h2⟩ => ⟨h1, hw.after0 h2⟩⟩
/-- A call of whatever make. -/
theorem TL.call {D : Value → World → Prop} (he : En P k) (hv : Evs l xs vs) (hb : Nat.blt d N = true) (hc : ∀ w, C w → Calls P k vs.toArray w (fun e w' => ∃ v, e = .returned v ∧ D v w'))
    (h : ∀ v, TL P ops Q N (D v) rest ((d, v) :: l)) :
    TL P ops Q N C (⟨some d, .call { callee := .value (.func k), args := xs.toArray, argTypes := ats }, ty, ps, af, none⟩ :: rest) l := TL.raw rfl fun a w hs hw => by
  unfold Oper.wp
  rw [run_call he hv hs, Oper.upon_enter]
  refine (hc w hw).mono fun e w' ⟨v, h1, h2⟩ => ?_
  subst h1
  exact h v _ _ (hs.put hb v) h2
theorem TL.callv {D : Value → World → Prop} {t : Nat} {cap : List Value} (he : En P k) (hf : Ev l (.tmp t) (.func (.func k) #[] cap.toArray)) (hv : Evs l xs vs) (hb : Nat.blt d N = true)
    (hc : ∀ w, C w → Calls P k (vs ++ cap).toArray w (fun e w' => ∃ v, e = .returned v ∧ D v w')) (h : ∀ v, TL P ops Q N (D v) rest ((d, v) :: l)) :
    TL P ops Q N C (⟨some d, .call { callee := .value (.tmp t), args := xs.toArray, argTypes := ats }, ty, ps, af, none⟩ :: rest) l := TL.raw rfl fun a w hs hw => by
  unfold Oper.wp
  rw [run_callv he hf hv hs, Oper.upon_enter]
  refine (hc w hw).mono fun e w' ⟨v, h1, h2⟩ => ?_
  subst h1
  exact h v _ _ (hs.put hb v) h2
theorem TL.call0 {D : World → Prop} (he : En P k) (hv : Evs l xs vs) (hc : ∀ w, C w → Calls P k vs.toArray w (fun e w' => ∃ v, e = .returned v ∧ D w'))
    (h : TL P ops Q N D rest l) :
    TL P ops Q N C (⟨none, .call { callee := .value (.func k), args := xs.toArray, argTypes := ats }, ty, ps, af, none⟩ :: rest) l := TL.raw rfl fun a w hs hw => by
  unfold Oper.wp
  rw [run_call he hv hs, Oper.upon_enter]
  refine (hc w hw).mono fun e w' ⟨v, h1, h2⟩ => ?_
  subst h1
  exact h _ _ hs h2
end

end Go.Proofs.Ytgnikdpgndmldaa
namespace Go.Proofs.Ytgnikdpgndmldaa
set_option linter.unusedVariables false
set_option linter.unusedSimpArgs false
open Go Go.RowKit

/-- t is a slice type with element type e, whose zero value is z, of sz cells and so many bytes. -/
def SlT (P : Program) (t e : TypeId) (z : Value) (sz bytes : Nat) : Prop :=
  P.underlying t = some (.slice e) ∧ (P.info? e).map (fun i => (i.zero, i.size, i.bytes)) = some (some z, sz, bytes) ∧ z.cells.size = sz ∧ 0 < sz
/-- A variable of type t is one cell. -/
def One (P : Program) (t : TypeId) : Prop := (∀ w, (isAgg t).run P w = .ok false w) ∧ (P.info? t).map (·.size) = some 1

theorem elem_of {P : Program} {t e : TypeId} (h : P.underlying t = some (.slice e)) : P.elem t = e := by simp [Program.elem, h]
theorem SlT.size {P : Program} {t e : TypeId} {z : Value} {sz bytes : Nat} (h : SlT P t e z sz bytes) (w : World) : (sizeOf e).run P w = .ok sz w := by
  obtain ⟨i, hi, _, hs, _⟩ := info_parts h.2.1
  simp [sizeOf, typeInfo, hi, hs]

/-- The address of element k. -/
def pt (v : Value) (k sz : Nat) : Value := match v with
  | .slice (some a) _ _ => .pointer (some (a.add (k * sz)))
  | _ => undef

/-- v[lo:hi]. -/
def resl (v : Value) (lo hi sz : Nat) : Value := match v with
  | .slice a _ c => .slice (if c = lo then a else a.map (·.add (lo * sz))) (hi - lo) (c - lo)
  | v => v

theorem addr_add_add (a : Addr) (i j : Nat) : (a.add i).add j = a.add (i + j) := by
  unfold Addr.add
  by_cases hi : i = 0 <;> by_cases hj : j = 0 <;> simp [hi, hj, Nat.add_assoc]
theorem addr_add_block (a : Addr) (i : Nat) : (a.add i).block = a.block := by unfold Addr.add; split <;> rfl

theorem rd_resl {w : World} {v : Value} {sz n : Nat} {xs : List Value} (h : Rd w v sz n xs) {lo hi : Nat} (h1 : lo ≤ hi) (h2 : hi ≤ n) :
    Rd w (resl v lo hi sz) sz (hi - lo) ((xs.take (hi * sz)).drop (lo * sz)) := by
  obtain ⟨e1, e2, A, c, rfl, e4, e5, e6⟩ := h
  have hm : hi * sz ≤ n * sz := Nat.mul_le_mul_right _ h2
  refine ⟨by rw [List.length_drop, List.length_take, e1, Nat.min_eq_left hm, Nat.sub_mul], by omega, _, _, rfl, by omega, ?_, fun hn => ?_⟩
  · intro hA
    split at hA
    · have := e5 hA; omega
    · cases A with
      | none => have := e5 rfl; omega
      | some a => simp at hA
  · obtain ⟨ad, rfl, hb, hc⟩ := e6 (by omega)
    rw [if_neg (by omega)]
    refine ⟨ad.add (lo * sz), rfl, by rw [addr_add_block]; exact hb, fun j u hu => ?_⟩
    rw [addr_add_add]
    refine hc _ u ?_
    rw [List.getElem?_drop, List.getElem?_take] at hu
    split at hu
    · exact hu
    · cases hu
theorem ri_resl {w : World} {v : Value} {xs : List Int} (h : RI w v xs) {lo hi : Nat} (h1 : lo ≤ hi) (h2 : hi ≤ xs.length) : RI w (resl v lo hi 1) ((xs.take hi).drop lo) := by
  have := rd_resl h h1 h2
  simp only [Nat.mul_one] at this
  unfold RI
  have hl : ((xs.take hi).drop lo).length = hi - lo := by rw [List.length_drop, List.length_take, Nat.min_eq_left h2]
  rw [hl]
  have : ints ((xs.take hi).drop lo) = ((ints xs).take hi).drop lo := by simp [ints, List.map_drop, List.map_take]
  rw [this]
  assumption

section
variable {P : Program} {ops : Array Oper} {Q : Exit → Act → World → Prop} {N : Nat} {C : World → Prop} {rest : List Oper} {l : Sl} {v : Value} {d : Nat}
variable {dd : Option Tmp} {ty : TypeId} {ps : String} {af : Array Edge} {g : Option (Nat × Bool)} {x y : Operand} {t e : TypeId} {z : Value} {sz bytes n m : Nat} {xs ys : List Value}

theorem y_len (hx : Ev l x v) (ht : P.underlying t = some (.slice e)) (h : ∀ w, C w → Ln v n) : Ys P C N l ⟨dd, .call { callee := .builtin .len, args := #[x], argTypes := #[t] }, ty, ps, af, g⟩ (int n) := yl_of fun a w hs hc => by
  obtain ⟨A, c, rfl, _⟩ := h w hc
  simp [execOp, resolve, invoke, builtin, hx N a hs, run_len_slice w t ty A n c (by rw [elem_of ht]; exact ht), goInt]

theorem y_idx (hx : Ev l x v) {k : Nat} {i : Int} {kk : IntKind} (hi : Ev l y (.int kk i)) (hk : i = k) (hT : SlT P t e z sz bytes) (hr : ∀ w, C w → Rd w v sz n xs) (hlt : k < n) :
    Ys P C N l ⟨dd, .indexAddr t x y, ty, ps, af, g⟩ (pt v k sz) := yl_of fun a w hs hc => by
  obtain ⟨e1, e2, A, c, rfl, e4, e5, e6⟩ := hr w hc
  obtain ⟨ad, rfl, _⟩ := e6 (by omega)
  subst hk
  have ht := hT.1
  have hsz := hT.size w
  simp [execOp, hx N a hs, hi N a hs, run_indexAt_slice w t ad n c kk k (by rw [elem_of ht]; exact ht), hlt, elem_of ht, hsz, pt]

theorem y_ld {k : Nat} {u : Value} (hx : Ev l x (pt v k 1)) (hT : One P t) (hr : ∀ w, C w → Rd w v 1 n xs) (hlt : k < n) (hu : xs[k]? = some u) : Ys P C N l ⟨dd, .load t x, ty, ps, af, g⟩ u := yl_of fun a w hs hc => by
  obtain ⟨e1, e2, A, c, rfl, e4, e5, e6⟩ := hr w hc
  obtain ⟨ad, rfl, _, hcell⟩ := e6 (by omega)
  have h1 := hcell k u hu
  have h2 : a.eval x = .pointer (some (ad.add (k * 1))) := hx N a hs
  rw [Nat.mul_one] at h2
  simp [execOp, h2, Instr.loadAt, Instr.sureAddr, loadVar, hT.1 w, h1]
theorem y_ldi {k : Nat} {zs : List Int} (hx : Ev l x (pt v k 1)) (hT : One P t) (hr : ∀ w, C w → RI w v zs) (hlt : k < zs.length) : Ys P C N l ⟨dd, .load t x, ty, ps, af, g⟩ (int (zs.getD k 0)) :=
  y_ld hx hT hr hlt (by simp [ints, hlt])
theorem y_ldu {k : Nat} {us : List Value} (hx : Ev l x (pt v k 1)) (hT : One P t) (hr : ∀ w, C w → Rd w v 1 us.length us) (hlt : k < us.length) : Ys P C N l ⟨dd, .load t x, ty, ps, af, g⟩ (us.getD k undef) :=
  y_ld hx hT hr hlt (by simp [hlt])
theorem y_idxi (hx : Ev l x v) {k : Nat} {i : Int} {kk : IntKind} {zs : List Int} (hi : Ev l y (.int kk i)) (hk : i = k) (hT : SlT P t e z 1 bytes) (hr : ∀ w, C w → RI w v zs) (hlt : k < zs.length) :
    Ys P C N l ⟨dd, .indexAddr t x y, ty, ps, af, g⟩ (pt v k 1) := y_idx hx hi hk hT hr hlt

variable {w0 : World} {os : List Ck}
theorem y_ldb (i : Nat) {b j : Nat} {cs : List Value} {u : Value} (hx : Ev l x (.pointer (some ⟨b, j, none⟩))) (hT : One P t) (ho : os[i]? = some (.blk b e cs)) (hu : cs[j]? = some u) :
    Ys P (Hp w0 os) N l ⟨dd, .load t x, ty, ps, af, g⟩ u := yl_of fun a w hs hc => by
  have h1 := (hc.get i ho).2
  have h2 := hx N a hs
  have h3 := cell_of_row w b j cs.toArray e (0, 0) h1
  simp [execOp, h2, Instr.loadAt, Instr.sureAddr, loadVar, hT.1 w, h3, hu]
theorem y_fa {s : TypeId} {f : Nat} {p q : Value} (h : ∀ w, (Instr.fieldAt s p f).run P w = .ok q w) (hx : Ev l x p) : Ys P C N l ⟨dd, .fieldAddr s x f, ty, ps, af, g⟩ q := yl_of fun a w hs _ => by
  simp [execOp, hx N a hs, h w]
theorem y_field {s : TypeId} {f : Nat} {p q : Value} (h : ∀ w, (Instr.field s p f).run P w = .ok q w) (hx : Ev l x p) : Ys P C N l ⟨dd, .field s x f, ty, ps, af, g⟩ q := yl_of fun a w hs _ => by
  simp [execOp, hx N a hs, h w]
theorem y_index {s : TypeId} {p i q : Value} (h : ∀ w, (Instr.index s p i).run P w = .ok q w) (hx : Ev l x p) (hy : Ev l y i) : Ys P C N l ⟨dd, .index s x y, ty, ps, af, g⟩ q := yl_of fun a w hs _ => by
  simp [execOp, hx N a hs, hy N a hs, h w]
theorem y_extract {i : Nat} {us : List Value} {u : Value} (hx : Ev l x (.tuple us.toArray)) (hu : us[i]? = some u) : Ys P C N l ⟨dd, .extract x i, ty, ps, af, g⟩ u := yl_of fun a w hs _ => by
  simp [execOp, hx N a hs, Instr.extract, hu]
theorem y_mkf {k : FuncId} {zs : List Operand} {us : List Value} (h : Evs l zs us) : Ys P C N l ⟨dd, .makeFunc (.func k) #[] zs.toArray, ty, ps, af, g⟩ (.func (.func k) #[] us.toArray) := yl_of fun a w hs _ => by
  simp [execOp, Instr.makeFunc, h.eq N a hs]
theorem y_nilp {a0 : Addr} (hx : Ev l x (.pointer (some a0))) : Ys P C N l ⟨dd, .nilCheck x, ty, ps, af, g⟩ (.pointer (some a0)) := yl_of fun a w hs _ => by
  simp [execOp, hx N a hs]
theorem y_slice {lo hi : Nat} {i j : Int} {y' : Operand} (hx : Ev l x v) (hy : Ev l y (int i)) (hy' : Ev l y' (int j)) (h1 : i = lo) (h2 : j = hi) (hT : SlT P t e z sz bytes) (hr : ∀ w, C w → Rd w v sz n xs) (h3 : lo ≤ hi) (h4 : hi ≤ n) :
    Ys P C N l ⟨dd, .slice t x (some y) (some y') none, ty, ps, af, g⟩ (resl v lo hi sz) := yl_of fun a w hs hc => by
  obtain ⟨e1, e2, A, c, rfl, e4, e5, e6⟩ := hr w hc
  subst h1; subst h2
  have ht := hT.1
  have hsz := hT.size w
  simp [execOp, hx N a hs, hy N a hs, hy' N a hs, Instr.sliceAt, Instr.slice, run_underlying ht, Instr.sliceBounds, Instr.sliceBound, asIntOf, h3, show hi ≤ c by omega, hsz, resl]
theorem y_slice_lo {lo : Nat} {i : Int} (hx : Ev l x v) (hy : Ev l y (int i)) (h1 : i = lo) (hT : SlT P t e z sz bytes) (hr : ∀ w, C w → Rd w v sz n xs) (h3 : lo ≤ n) :
    Ys P C N l ⟨dd, .slice t x (some y) none none, ty, ps, af, g⟩ (resl v lo n sz) := yl_of fun a w hs hc => by
  obtain ⟨e1, e2, A, c, rfl, e4, e5, e6⟩ := hr w hc
  subst h1
  have ht := hT.1
  have hsz := hT.size w
  simp [execOp, hx N a hs, hy N a hs, Instr.sliceAt, Instr.slice, run_underlying ht, Instr.sliceBounds, Instr.sliceBound, asIntOf, h3, hsz, resl]
theorem y_slice_hi {hi : Nat} {j : Int} (hx : Ev l x v) (hy : Ev l y (int j)) (h2 : j = hi) (hT : SlT P t e z sz bytes) (hr : ∀ w, C w → Rd w v sz n xs) (h4 : hi ≤ n) :
    Ys P C N l ⟨dd, .slice t x none (some y) none, ty, ps, af, g⟩ (resl v 0 hi sz) := yl_of fun a w hs hc => by
  obtain ⟨e1, e2, A, c, rfl, e4, e5, e6⟩ := hr w hc
  subst h2
  have ht := hT.1
  have hsz := hT.size w
  simp [execOp, hx N a hs, hy N a hs, Instr.sliceAt, Instr.slice, run_underlying ht, Instr.sliceBounds, Instr.sliceBound, asIntOf, show hi ≤ c by omega, hsz, resl]

/-! new memory -/
theorem get_set2 {os : List Ck} {i j k : Nat} {c n d : Ck} (h : ((os.set i c).set j n)[k]? = some d) : (k = j ∧ d = n) ∨ (k ≠ j ∧ k = i ∧ d = c) ∨ (k ≠ j ∧ k ≠ i ∧ os[k]? = some d) := by
  simp only [List.getElem?_set] at h
  by_cases e1 : j = k
  · subst e1
    left
    simp only [if_true] at h
    split at h
    · exact ⟨rfl, (Option.some.inj h).symm⟩
    · cases h
  · rw [if_neg e1] at h
    by_cases e2 : i = k
    · subst e2
      right; left
      simp only [if_true] at h
      split at h
      · exact ⟨fun e => e1 e.symm, rfl, (Option.some.inj h).symm⟩
      · cases h
    · rw [if_neg e2] at h
      exact .inr (.inr ⟨fun e => e1 e.symm, fun e => e2 e.symm, h⟩)
theorem Hp.apart {w : World} (h : Hp w0 os w) {i j : Nat} {c d : Ck} (hij : i ≠ j) (hi : os[i]? = some c) (hj : os[j]? = some d) : Apart c d := by
  obtain ⟨hi1, hi2⟩ := List.getElem?_eq_some_iff.1 hi
  obtain ⟨hj1, hj2⟩ := List.getElem?_eq_some_iff.1 hj
  have hp := List.pairwise_iff_getElem.1 h.2.2
  rcases Nat.lt_or_gt_of_ne hij with hlt | hlt
  · have := hp i j hi1 hj1 hlt
    rw [hi2, hj2] at this
    exact this
  · have := hp j i hj1 hi1 hlt
    rw [hi2, hj2] at this
    exact this.symm
theorem pw_of {os : List Ck} (h : ∀ (i j : Nat) (c d : Ck), i < j → os[i]? = some c → os[j]? = some d → Apart c d) : os.Pairwise Apart :=
  List.pairwise_iff_getElem.2 fun i j hi hj hlt => h i j _ _ hlt (List.getElem?_eq_getElem hi) (List.getElem?_eq_getElem hj)
theorem get_set1 {os : List Ck} {i k : Nat} {c d : Ck} (h : (os.set i c)[k]? = some d) : (k = i ∧ d = c) ∨ (k ≠ i ∧ os[k]? = some d) := by
  simp only [List.getElem?_set] at h
  by_cases e2 : i = k
  · subst e2
    left
    simp only [if_true] at h
    split at h
    · exact ⟨rfl, (Option.some.inj h).symm⟩
    · cases h
  · rw [if_neg e2] at h
    exact .inr ⟨fun e => e2 e.symm, h⟩
theorem Hp.turn_at {w w' : World} (i : Nat) {c c' : Ck} (h : Hp w0 os w) (hi : os[i]? = some c) (ho : w'.os = w.os) (ht : w'.tape = w.tape) (hu : w'.output = w.output)
    (hs : w.heap.size ≤ w'.heap.size) (hk : ∀ k, k < w.heap.size → ¬ c.foot k → w'.heap[k]? = w.heap[k]?) (hc : c'.ok w0.heap.size w') (hf : ∀ k, c'.foot k → c.foot k ∨ w.heap.size ≤ k) :
    Hp w0 (os.set i c') w' := by
  have h1 := h.get i hi
  have far : ∀ k d, k ≠ i → os[k]? = some d → Apart c' d := fun k d e2 hd q hq hq' => by
    rcases hf q hq with hq | hq
    · exact h.apart (fun e => e2 e.symm) hi hd q hq hq'
    · have := ((h.get k hd).lt q hq').2; omega
  refine ⟨⟨ho.trans h.1.os, ht.trans h.1.tape, hu.trans h.1.output, Nat.le_trans h.1.size hs, fun k hkk => ?_⟩, ?_, pw_of ?_⟩
  · rw [hk k (Nat.lt_of_lt_of_le hkk h.1.size) (fun hf => by have := (h1.lt k hf).1; omega)]
    exact h.1.block k hkk
  · intro d hd
    obtain ⟨k, hd⟩ := List.mem_iff_getElem?.1 hd
    rcases get_set1 hd with ⟨_, rfl⟩ | ⟨e2, hd⟩
    · exact hc
    · have h3 := h.get k hd
      exact h3.keep fun q hq => hk q (h3.lt q hq).2 (fun hq' => h.apart (fun e => e2 e.symm) hi hd q hq' hq)
  · intro p q c d hlt hp hq
    rcases get_set1 hp with ⟨e2, e5⟩ | ⟨e2, hp'⟩
    · rcases get_set1 hq with ⟨e3, e6⟩ | ⟨e4, hq'⟩
      · omega
      · rw [e5]; exact far q d e4 hq'
    · rcases get_set1 hq with ⟨e3, e6⟩ | ⟨e4, hq'⟩
      · rw [e6]; exact (far p c e2 hp').symm
      · exact h.apart (by omega) hp' hq'

theorem TL.box (hx : Ev l x v) (hb : Nat.blt d N = true) (h : ∀ b, TL P ops Q N (Hp w0 (.blk b e v.cells.toList :: os)) rest ((d, .pointer (some ⟨b, 0, none⟩)) :: l)) :
    TL P ops Q N (Hp w0 os) (⟨some d, .box e x, ty, ps, af, none⟩ :: rest) l := TL.raw rfl fun a w hs hw => by
  have hr : (execOp a.eval ⟨some d, .box e x, ty, ps, af, none⟩).run P w = .ok (.value (.pointer (some ⟨w.heap.size, 0, none⟩))) (w.alloc (.cells v.cells e)) := by
    simp [execOp, hx N a hs, Instr.box, newVar, newRow]
  unfold Oper.wp
  rw [hr]
  exact h _ _ _ (hs.put hb _) (hw.alloc _ _)
theorem TL.alloc {u : Value} (hz : (P.info? e).bind (·.zero) = some u) (hb : Nat.blt d N = true) (h : ∀ b, TL P ops Q N (Hp w0 (.blk b e u.cells.toList :: os)) rest ((d, .pointer (some ⟨b, 0, none⟩)) :: l)) :
    TL P ops Q N (Hp w0 os) (⟨some d, .alloc e, ty, ps, af, none⟩ :: rest) l := TL.raw rfl fun a w hs hw => by
  obtain ⟨i, hi, hiz⟩ := Option.bind_eq_some_iff.1 hz
  have hr : (execOp a.eval ⟨some d, .alloc e, ty, ps, af, none⟩).run P w = .ok (.value (.pointer (some ⟨w.heap.size, 0, none⟩))) (w.alloc (.cells u.cells e)) := by
    simp [execOp, Instr.alloc, newVar, newRow, zeroValue, typeInfo, hi, hiz]
  unfold Oper.wp
  rw [hr]
  exact h _ _ _ (hs.put hb _) (hw.alloc _ _)

theorem ck_row_new {w : World} {cs : Array Value} (hs : cs.size = n * sz) (hn : n ≤ maxLen) : (Ck.row (.slice (some ⟨w.heap.size, 0, none⟩) n n) e sz n cs.toList).ok w.heap.size (w.alloc (.cells cs e)) :=
  Own.of (World.ownsRow_lit w cs n (Nat.le_refl _) hn hs)

theorem fill_from (sz : Nat) (hsz : 0 < sz) : ∀ (vs : List Value) (i : Nat) (cur : Array Value), (∀ u ∈ vs, u.cells.size = sz) → cur.size = (i + vs.length) * sz →
    Instr.fill (fun i => some (i * sz, sz)) cur (List.zip (List.range' i vs.length) vs) = some (cur.toList.take (i * sz) ++ vs.flatMap (·.cells.toList)).toArray
  | [], i, cur, _, hc => by
    simp only [List.length_nil, Nat.add_zero] at hc
    simp only [List.length_nil, List.range'_zero, List.zip_nil_left, Instr.fill, List.flatMap_nil, List.append_nil, Option.some.injEq]
    rw [List.take_of_length_le (by simp [hc])]
  | u :: vs, i, cur, hu, hc => by
    have h0 := hu u (by simp)
    have hc' : cur.size = (i + 1 + vs.length) * sz := by rw [hc]; simp only [List.length_cons]; congr 1; omega
    have hle : i * sz + sz ≤ cur.size := by
      rw [hc', Nat.add_mul, Nat.add_mul, Nat.one_mul]; omega
    have key : ∀ (m j : Nat) (us : List Value) (cur : Array Value), us.length = m → i * sz + j + m ≤ cur.size →
        ((us.zipIdx j).foldl (fun cs (c, j) => cs.setIfInBounds (i * sz + j) c) cur) = (cur.toList.take (i * sz + j) ++ us ++ cur.toList.drop (i * sz + j + m)).toArray := by
      intro m
      induction m with
      | zero =>
        intro j us cur hl _
        have : us = [] := List.eq_nil_of_length_eq_zero hl
        subst this
        simp
      | succ m ih =>
        intro j us cur hl hb
        match us, hl with
        | c :: us, hl =>
          simp only [List.zipIdx_cons, List.foldl_cons]
          rw [ih (j + 1) us _ (by simpa using hl) (by simp; omega)]
          congr 1
          simp only [Array.toList_setIfInBounds]
          have hlt : i * sz + j < cur.toList.length := by simp; omega
          rw [show i * sz + (j + 1) = (i * sz + j) + 1 by omega, List.take_succ_eq_append_getElem (by simpa using hlt), List.getElem_set_self, List.take_set_of_le (Nat.le_refl _), List.drop_set_of_lt (by omega)]
          simp [Nat.add_assoc, Nat.add_comm 1 m]
    have hz : List.zip (List.range' i (u :: vs).length) (u :: vs) = (i, u) :: List.zip (List.range' (i + 1) vs.length) vs := by
      simp [List.range'_succ]
    rw [hz]
    simp only [Instr.fill, h0, ne_eq, not_true_eq_false, decide_false, Bool.false_or]
    rw [if_neg (by simp; omega)]
    have hk := key sz 0 u.cells.toList cur (by simp [h0]) (by omega)
    simp only [Nat.add_zero] at hk
    have hfold : (u.cells.zipIdx.foldl (fun cs (c, j) => cs.setIfInBounds (i * sz + j) c) cur) = (cur.toList.take (i * sz) ++ u.cells.toList ++ cur.toList.drop (i * sz + sz)).toArray := by
      rw [← hk, ← Array.foldl_toList]; simp [Array.toList_zipIdx]
    rw [hfold, fill_from sz hsz vs (i + 1) _ (fun x hx => hu x (by simp [hx])) (by
      simp [h0]; omega)]
    congr 1
    simp only [List.flatMap_cons, ← List.append_assoc]
    congr 2
    have hlen : (List.take (i * sz) cur.toList ++ u.cells.toList).length = (i + 1) * sz := by
      simp [h0, Nat.add_mul]; omega
    rw [← hlen, List.take_left' rfl]

theorem TL.buildSlice {parts : List (Nat × Operand)} {zs : List Operand} {vs : List Value} (hT : SlT P t e z sz bytes) (hz : parts = List.zip (List.range' 0 vs.length) zs) (hv : Evs l zs vs) (hc : ∀ u ∈ vs, u.cells.size = sz)
    (hn : n = vs.length) (hsm : n * sz ≤ 16777216) (hb : Nat.blt d N = true)
    (h : ∀ v', TL P ops Q N (Hp w0 (.row v' e sz n (vs.flatMap (·.cells.toList)) :: os)) rest ((d, v') :: l)) :
    TL P ops Q N (Hp w0 os) (⟨some d, .buildSlice t n parts.toArray, ty, ps, af, none⟩ :: rest) l := TL.raw rfl fun a w hs hw => by
  obtain ⟨i, hi, hiz, his, _⟩ := info_parts hT.2.1
  have hmap : (parts.toArray.map fun (i, x) => (i, a.eval x)).toList = List.zip (List.range' 0 vs.length) vs := by
    have := hv.eq N a hs
    rw [hz]
    simp only [List.map_toArray]
    rw [← this, List.zip_map_right]
    rfl
  have hlen0 : (vs.flatMap (·.cells.toList)).length = n * sz := by
    subst hn
    clear hv hz h hmap
    induction vs with
    | nil => simp
    | cons u us ih =>
      have h1 := hc u (by simp)
      have h2 := ih (fun x hx => hc x (by simp [hx])) (by simp only [List.length_cons, Nat.add_mul] at hsm; omega)
      simp only [List.flatMap_cons, List.length_append, h2, List.length_cons, Nat.add_mul, Nat.one_mul, Array.length_toList, h1]; omega
  have hr : (execOp a.eval ⟨some d, .buildSlice t n parts.toArray, ty, ps, af, none⟩).run P w = .ok (.value (.slice (some ⟨w.heap.size, 0, none⟩) n n)) (w.alloc (.cells (vs.flatMap (·.cells.toList)).toArray e)) := by
    have hf : ∀ cur : Array Value, cur.size = n * sz → Instr.fill (fun i => some (i * sz, sz)) cur (parts.toArray.map fun (i, x) => (i, a.eval x)).toList = some (vs.flatMap (·.cells.toList)).toArray := by
      intro cur hcur
      rw [hmap, fill_from sz hT.2.2.2 vs 0 cur hc (by rw [hcur, hn, Nat.zero_add])]
      simp
    by_cases h0 : n * sz = 0
    · have hf0 := hf #[] (by simp [h0])
      simp only [execOp, Instr.buildSlice, Sem.run_bind, run_underlying hT.1, Result.andThen_ok, hT.size, Sem.run_pure, if_neg (show ¬ n * sz > 2 ^ 24 by omega), if_pos h0]
      have : ((Array.range (n * sz)).map fun (i : Nat) => (#[] : Array Value)[i % (#[] : Array Value).size]!) = #[] := by simp [h0]
      rw [this, hf0]
      simp [newRow]
    · have hf0 := hf ((Array.range (n * sz)).map fun (i : Nat) => z.cells[i % z.cells.size]!) (by simp)
      simp only [execOp, Instr.buildSlice, Sem.run_bind, run_underlying hT.1, Result.andThen_ok, hT.size, Sem.run_pure, if_neg (show ¬ n * sz > 2 ^ 24 by omega), if_neg h0]
      have hzv : (zeroValue e).run P w = .ok z w := by simp [zeroValue, typeInfo, hi, hiz]
      simp only [Result.andThen_ok, hzv]
      rw [hf0]
      simp [newRow]
  unfold Oper.wp
  rw [hr]
  refine h _ _ _ (hs.put hb _) (hw.new ((Below.refl _ _).alloc (Nat.le_refl _) _) ?_)
  have := ck_row_new (w := w) (e := e) (sz := sz) (n := n) (cs := (vs.flatMap (·.cells.toList)).toArray) (by simp only [List.size_toArray]; exact hlen0) (by
    have h1 : n ≤ n * sz := Nat.le_mul_of_pos_right _ hT.2.2.2
    unfold maxLen; omega)
  simpa using this

theorem TL.makeSlice {y : Operand} {i : Int} {u : Value} (hx : Ev l x (int i)) (hy : Ev l y (int i)) (hi : i = (n : Nat)) (hT : SlT P t e u 1 bytes) (h1 : u.cells = #[u]) (hb48 : bytes * n ≤ 281474976710656) (hm : n ≤ maxLen) (hb : Nat.blt d N = true)
    (h : ∀ v', TL P ops Q N (Hp w0 (.row v' e 1 n (List.replicate n u) :: os)) rest ((d, v') :: l)) :
    TL P ops Q N (Hp w0 os) (⟨some d, .makeSlice t x y, ty, ps, af, none⟩ :: rest) l := TL.raw rfl fun a w hs hw => by
  obtain ⟨j, hj, hz, hsz, hby⟩ := info_parts hT.2.1
  subst hi
  subst hby
  have hr := run_make (P := P) w t e j u hT.1 hj hz .i64 .i64 n n (by omega) (Int.le_refl _) (by
    have h : ((j.bytes * n : Nat) : Int) ≤ 281474976710656 := by omega
    rwa [Int.natCast_mul] at h) (by simp only [maxLen] at hm; omega)
  simp only [Int.toNat_natCast] at hr
  unfold Oper.wp
  simp only [execOp, hx N a hs, hy N a hs, Sem.run_bind, hr, Result.andThen_ok, Sem.run_pure, Oper.upon]
  refine h _ _ _ (hs.put hb _) (hw.new ((Below.refl _ _).alloc (Nat.le_refl _) _) ?_)
  have := ck_row_new (w := w) (e := e) (sz := 1) (n := n) (cs := madeCells u.cells (n * j.size)) (by rw [size_madeCells, hsz]) hm
  rw [h1, hsz, Nat.mul_one, toList_madeCells_one] at this
  rw [h1, hsz, Nat.mul_one]
  exact this

theorem run_append_none {base : Nat} {w : World} (hT : SlT P t e z sz bytes) {v : Value} (hown : Own w base e sz v n xs) {u : Value} (hr : Rd w u sz 0 []) : (Builtin.append_ #[t, t] ty #[v, u]).run P w = .ok v w := by
  obtain ⟨i, hi, _, _, _⟩ := info_parts hT.2.1
  obtain ⟨_, _, A, c, rfl, _, _, _⟩ := hr
  rcases hown.2 with ⟨⟨B, rfl⟩, rfl⟩ | ⟨g, cap, cur, rfl, _, _, _, hnc, _⟩
  · cases A <;> cases B <;> simp [Builtin.append_, run_underlying hT.1, sizeOf, typeInfo, hi, Builtin.lenOf, Builtin.firstCells, storeCells, loadCells, loadCellsFrom]
  · cases A <;> simp [Builtin.append_, run_underlying hT.1, sizeOf, typeInfo, hi, Builtin.lenOf, Builtin.firstCells, hnc, storeCells, loadCells, loadCellsFrom]

theorem run_append {base : Nat} {w : World} (hT : SlT P t e z sz bytes) {v u : Value} (hown : Own w base e sz v n xs) (hr : Rd w u sz m ys) (h1 : ∀ u ∈ ys, u.oneCell' = true)
    (hb : (n + m) * bytes ≤ 140737488355328) (hm : n + m ≤ maxLen) (hbase : base ≤ w.heap.size) :
    ∃ v' w', (Builtin.append_ #[t, t] ty #[v, u]).run P w = .ok v' w' ∧ Own w' base e sz v' (n + m) (xs ++ ys) ∧ w.grownBy w' (obk v) ∧ (obk v' = obk v ∨ obk v' = some w.heap.size ∨ obk v' = none) := by
  obtain ⟨i, hi, hz, hsz, hby⟩ := info_parts hT.2.1
  rcases Nat.eq_zero_or_pos m with h0 | h0
  · subst h0
    have : ys = [] := List.eq_nil_of_length_eq_zero (by simpa using hr.1)
    subst this
    exact ⟨v, w, run_append_none hT hown hr, by simpa using hown, World.grownBy.refl w _, .inl rfl⟩
  · obtain ⟨e1, e2, A, c, rfl, e4, e5, e6⟩ := hr
    obtain ⟨ad, rfl, _, hcells⟩ := e6 h0
    -- the new row's owner is a row of the elder word
    have fin : ∀ {v0 v' : Value} {w' : World}, w'.ownsRow base e sz v' (n + m) (xs ++ ys) → w.grownBy w' v0.ownBlock → (v'.ownBlock = v0.ownBlock ∨ v'.ownBlock = some w.heap.size) → (obk v = v0.ownBlock ∨ v0.ownBlock = none) →
        Own w' base e sz v' (n + m) (xs ++ ys) ∧ w.grownBy w' (obk v) ∧ (obk v' = obk v ∨ obk v' = some w.heap.size ∨ obk v' = none) := by
      intro v0 v' w' h2 h3 h5 h6
      refine ⟨Own.of h2, ⟨h3.os, h3.tape, h3.output, h3.size, fun k hk hne => h3.block k hk (fun e => ?_)⟩, ?_⟩
      · rcases h6 with h6 | h6
        · exact hne (by rw [h6]; exact e)
        · rw [h6] at e; cases e
      · cases ho : obk v' with
        | none => exact .inr (.inr rfl)
        | some k =>
          have hk := obk_own ho
          rcases h5 with h5 | h5
          · rcases h6 with h6 | h6
            · left; rw [h6, ← h5, hk]
            · rw [h5, h6] at hk; cases hk
          · right; left; rw [← h5, hk]
    rcases hown.2 with ⟨⟨B, rfl⟩, rfl⟩ | ⟨g, cap, cur, rfl, hc0, hbg, hg, hnc, hcm, hcs, htk⟩
    · have hx : xs = [] := List.eq_nil_of_length_eq_zero (by simpa using hown.1)
      subst hx
      rcases B with _ | bd
      · obtain ⟨v', w', hrun, h2, h3, _, h5⟩ := run_append_own_at (P := P) w base t ty e i z sz bytes hT.1 hi hz hsz hby hT.2.2.1 hT.2.2.2 (.slice none 0 0) 0 [] (World.ownsRow_nil _ _ _ _) ad m c ys e1 hcells h1 hm hb hbase
        obtain ⟨f1, f2, f3⟩ := fin (v0 := .slice none 0 0) h2 h3 h5 (.inr rfl)
        exact ⟨v', w', hrun, f1, f2, f3⟩
      · subst hsz
        subst hby
        have hr := run_append_grow (P := P) w t ty e i z hT.1 hi hz bd 0 0 [] (by simp) (by simp) ad m c ys e1 hcells (by omega) (by simp only [maxLen] at hm; omega) (growslice_fits (by omega) hb)
        have hge := grownCap_ge w (0 + m) 0 e
        have hcm := grownCap_le_maxLen w (0 + m) 0 e hm
        simp only [Nat.zero_add] at hr hge hcm ⊢
        refine ⟨_, _, hr, ?_, ⟨rfl, rfl, rfl, by simp, fun k hk _ => Below.heap_alloc w.drew _ k hk⟩, .inr (.inl (own_obk (by omega)))⟩
        refine ⟨by simpa using e1, .inr ⟨w.heap.size, _, _, rfl, by omega, hbase, heap_alloc_new w.drew _, hge, hcm, ?_, ?_⟩⟩
        · simp only [Array.size_append, List.size_toArray, size_zeroCells, hT.2.2.1, List.length_nil, e1, Nat.zero_add, ← Nat.add_mul]
          congr 1
          omega
        · simp only [Array.toList_append, List.nil_append, ← e1]
          rw [List.take_left']
          rfl
    · have hrow : w.ownsRow base e sz (.slice (some ⟨g, 0, none⟩) n cap) n xs := ⟨hown.1, .inr ⟨g, cap, cur, rfl, hbg, hg, hnc, hcm, hcs, htk⟩⟩
      obtain ⟨v', w', hrun, h2, h3, _, h5⟩ := run_append_own_at (P := P) w base t ty e i z sz bytes hT.1 hi hz hsz hby hT.2.2.1 hT.2.2.2 _ n xs hrow ad m c ys e1 hcells h1 hm hb hbase
      obtain ⟨f1, f2, f3⟩ := fin (v0 := .slice (some ⟨g, 0, none⟩) n cap) h2 h3 h5 (.inl (own_obk hc0))
      exact ⟨v', w', hrun, f1, f2, f3⟩

/-- Two chunks give way to one; the second's place is left empty. -/
theorem Hp.turn2 {w w' : World} {i j : Nat} {c1 c2 c' : Ck} (_hij : i ≠ j) (h : Hp w0 os w) (hi : os[i]? = some c1) (hj : os[j]? = some c2) (ho : w'.os = w.os) (ht : w'.tape = w.tape) (hu : w'.output = w.output)
    (hs : w.heap.size ≤ w'.heap.size) (hk : ∀ k, k < w.heap.size → ¬ c1.foot k → ¬ c2.foot k → w'.heap[k]? = w.heap[k]?) (hc : c'.ok w0.heap.size w') (hf : ∀ k, c'.foot k → c1.foot k ∨ c2.foot k ∨ w.heap.size ≤ k) :
    Hp w0 ((os.set i c').set j nilCk) w' := by
  have h1 := h.get i hi
  have h2 := h.get j hj
  have far : ∀ k d, k ≠ j → k ≠ i → os[k]? = some d → Apart c' d := fun k d e1 e2 hd q hq hq' => by
    rcases hf q hq with hq | hq | hq
    · exact h.apart (fun e => e2 e.symm) hi hd q hq hq'
    · exact h.apart (fun e => e1 e.symm) hj hd q hq hq'
    · have := ((h.get k hd).lt q hq').2; omega
  have nilA : ∀ d, Apart nilCk d := fun d q hq => by
    have : obk (Value.slice none 0 0) = some q := hq
    simp [obk] at this
  refine ⟨⟨ho.trans h.1.os, ht.trans h.1.tape, hu.trans h.1.output, Nat.le_trans h.1.size hs, fun k hkk => ?_⟩, ?_, pw_of ?_⟩
  · rw [hk k (Nat.lt_of_lt_of_le hkk h.1.size) (fun hf => by have := (h1.lt k hf).1; omega) (fun hf => by have := (h2.lt k hf).1; omega)]
    exact h.1.block k hkk
  · intro d hd
    obtain ⟨k, hd⟩ := List.mem_iff_getElem?.1 hd
    rcases get_set2 hd with ⟨_, rfl⟩ | ⟨_, _, rfl⟩ | ⟨e1, e2, hd⟩
    · exact Own.nil _ _ _ _
    · exact hc
    · have h3 := h.get k hd
      exact h3.keep fun q hq => hk q (h3.lt q hq).2 (fun hq' => h.apart (fun e => e2 e.symm) hi hd q hq' hq) (fun hq' => h.apart (fun e => e1 e.symm) hj hd q hq' hq)
  · intro p q c d hlt hp hq
    rcases get_set2 hp with ⟨_, e5⟩ | ⟨e1, e2, e5⟩ | ⟨e1, e2, hp'⟩
    · rw [e5]; exact nilA d
    · rcases get_set2 hq with ⟨_, e6⟩ | ⟨_, e3, e6⟩ | ⟨e3, e4, hq'⟩
      · rw [e6]; exact (nilA _).symm
      · omega
      · rw [e5]; exact far q d e3 e4 hq'
    · rcases get_set2 hq with ⟨_, e6⟩ | ⟨_, e3, e6⟩ | ⟨e3, e4, hq'⟩
      · rw [e6]; exact (nilA _).symm
      · rw [e6]; exact (far p c e1 e2 hp').symm
      · exact h.apart (by omega) hp' hq'

theorem TL.append (i : Nat) {u : Value} (hx : Ev l x v) (hy : Ev l y u) (ho : os[i]? = some (.row v e sz n xs)) (hT : SlT P t e z sz bytes) (hr : ∀ w, Hp w0 os w → Rd w u sz m ys) (h1 : ∀ u ∈ ys, u.oneCell' = true)
    (hb47 : (n + m) * bytes ≤ 140737488355328) (hm : n + m ≤ maxLen) (hb : Nat.blt d N = true)
    (h : ∀ v', TL P ops Q N (Hp w0 (os.set i (.row v' e sz (n + m) (xs ++ ys)))) rest ((d, v') :: l)) :
    TL P ops Q N (Hp w0 os) (⟨some d, .call { callee := .builtin .append, args := #[x, y], argTypes := #[t, t] }, ty, ps, af, none⟩ :: rest) l := TL.raw rfl fun a w hs hw => by
  obtain ⟨v', w', hrun, h2, h3, h4⟩ := run_append (P := P) (ty := ty) hT (hw.get i ho) (hr w hw) h1 hb47 hm hw.1.size
  unfold Oper.wp
  simp only [execOp, resolve, invoke, builtin, Sem.run_bind, Sem.run_pure, Result.andThen_ok, List.map_toArray, List.map_cons, List.map_nil, hx N a hs, hy N a hs, hrun, Oper.upon]
  refine h v' _ _ (hs.put hb _) (hw.turn_at i ho h3.os h3.tape h3.output h3.size (fun k hk hne => h3.block k hk (fun e => hne e.symm)) h2 (fun k hk => ?_))
  have hk' : obk v' = some k := hk
  rcases h4 with h4 | h4 | h4
  · left; show obk v = some k; rw [← h4]; exact hk
  · right
    rw [h4] at hk'
    have := Option.some.inj hk'
    omega
  · rw [h4] at hk'; cases hk'
theorem oc_ints (zs : List Int) : ∀ u ∈ ints zs, u.oneCell' = true := ints_oneCell _ _
theorem oc_strs (zs : List ByteArray) : ∀ u ∈ strs zs, u.oneCell' = true := by
  intro u hu; obtain ⟨_, _, rfl⟩ := List.mem_map.1 hu; rfl
theorem TL.appendI (i : Nat) {u : Value} {zs qs : List Int} (hx : Ev l x v) (hy : Ev l y u) (ho : os[i]? = some (rowI e v zs)) (hT : SlT P t e z 1 8) (hr : ∀ w, Hp w0 os w → RI w u qs)
    (hm : zs.length + qs.length ≤ 17592186044416) (hb : Nat.blt d N = true) (h : ∀ v', TL P ops Q N (Hp w0 (os.set i (rowI e v' (zs ++ qs)))) rest ((d, v') :: l)) :
    TL P ops Q N (Hp w0 os) (⟨some d, .call { callee := .builtin .append, args := #[x, y], argTypes := #[t, t] }, ty, ps, af, none⟩ :: rest) l :=
  TL.append i hx hy ho hT hr (oc_ints _) (by omega) (by simp [maxLen]; omega) hb fun v' => by
    have := h v'
    simp only [rowI, List.length_append, ints, List.map_append] at this
    exact this
theorem TL.appendS (i : Nat) {u : Value} {zs qs : List ByteArray} (hx : Ev l x v) (hy : Ev l y u) (ho : os[i]? = some (rowS e v zs)) (hT : SlT P t e z 1 16) (hr : ∀ w, Hp w0 os w → Rd w u 1 qs.length (strs qs))
    (hm : zs.length + qs.length ≤ 8796093022208) (hb : Nat.blt d N = true) (h : ∀ v', TL P ops Q N (Hp w0 (os.set i (rowS e v' (zs ++ qs)))) rest ((d, v') :: l)) :
    TL P ops Q N (Hp w0 os) (⟨some d, .call { callee := .builtin .append, args := #[x, y], argTypes := #[t, t] }, ty, ps, af, none⟩ :: rest) l :=
  TL.append i hx hy ho hT hr (oc_strs _) (by omega) (by simp [maxLen]; omega) hb fun v' => by
    have := h v'
    simp only [rowS, List.length_append, strs, List.map_append] at this
    exact this

/-- A row of ints goes into a table; its own chunk is spent. -/
theorem TL.appendT (i j : Nat) {u r : Value} {e' : TypeId} {us : List Value} {xss : List (List Int)} {qs : List Int} (hij : Nat.beq i j = false) (hx : Ev l x v) (hy : Ev l y u) (ho : os[i]? = some (tabI e e' v us xss)) (hj : os[j]? = some (rowI e' r qs))
    (hT : SlT P t e z 1 24) (hr : ∀ w, Hp w0 os w → Rd w u 1 1 [r]) (hm : xss.length + 1 ≤ 5000000000000) (hb : Nat.blt d N = true)
    (h : ∀ v', TL P ops Q N (Hp w0 ((os.set i (tabI e e' v' (us ++ [r]) (xss ++ [qs]))).set j nilCk)) rest ((d, v') :: l)) :
    TL P ops Q N (Hp w0 os) (⟨some d, .call { callee := .builtin .append, args := #[x, y], argTypes := #[t, t] }, ty, ps, af, none⟩ :: rest) l := TL.raw rfl fun a w hs hw => by
  have hne : i ≠ j := by intro e; subst e; simp at hij
  have hti := hw.get i ho
  have hrj := hw.get j hj
  have hone : ∀ q ∈ [r], q.oneCell' = true := by
    intro q hq
    simp only [List.mem_singleton] at hq
    subst hq
    rcases hrj.2 with ⟨⟨A, rfl⟩, _⟩ | ⟨g, cap, cur, rfl, _⟩ <;> rfl
  obtain ⟨v', w', hrun, h2, h3, h4⟩ := run_append (P := P) (ty := ty) hT hti.1 (hr w hw) hone (by omega) (by simp [maxLen]; omega) hw.1.size
  unfold Oper.wp
  simp only [execOp, resolve, invoke, builtin, Sem.run_bind, Sem.run_pure, Result.andThen_ok, List.map_toArray, List.map_cons, List.map_nil, hx N a hs, hy N a hs, hrun, Oper.upon]
  have hap := hw.apart hne ho hj
  have hlen : us.length = xss.length := hti.2.1
  have hrk : ∀ k, obk r = some k → obk v' ≠ some k := fun k hk hk' => by
    rcases h4 with h4 | h4 | h4
    · exact hap k (.inl (by rw [← h4]; exact hk')) hk
    · have h5 := (hrj.lt k hk).2
      rw [h4] at hk'
      have := Option.some.inj hk'
      omega
    · rw [h4] at hk'; cases hk'
  have huk : ∀ p, p < us.length → ∀ k, obk (us.getD p undef) = some k → obk v' ≠ some k ∧ obk r ≠ some k := fun p hp k hk => by
    refine ⟨fun hk' => ?_, fun hk' => hap k (.inr ⟨p, hp, by simp, hk⟩) hk'⟩
    rcases h4 with h4 | h4 | h4
    · exact (hti.2.2.2 p hp k hk).1 (by rw [← h4]; exact hk')
    · have h5 := (hti.lt k (.inr ⟨p, hp, by simp, hk⟩)).2
      rw [h4] at hk'
      have := Option.some.inj hk'
      omega
    · rw [h4] at hk'; cases hk'
  have gl : ∀ p, p < us.length → (us ++ [r]).getD p undef = us.getD p undef := fun p hp => by
    simp [List.getElem?_append, hp]
  have gr : (us ++ [r]).getD us.length undef = r := by simp
  have gxl : ∀ p, p < us.length → (xss ++ [qs]).getD p [] = xss.getD p [] := fun p hp => by
    simp [List.getElem?_append, ← hlen, hp]
  have gxr : (xss ++ [qs]).getD us.length [] = qs := by simp [hlen]
  refine h v' _ _ (hs.put hb _) (hw.turn2 hne ho hj h3.os h3.tape h3.output h3.size (fun k hk h5 _ => h3.block k hk (fun e => h5 (.inl e.symm))) ⟨?_, ?_, ?_, ?_⟩ ?_)
  · simpa using h2
  · simp [hlen]
  · intro p hp _
    rcases Nat.lt_or_ge p us.length with hlt | hge
    · rw [gl p hlt, gxl p hlt]
      exact Own.keep (hti.2.2.1 p hlt (by simp)) fun k hk => h3.block k (hti.lt k (.inr ⟨p, hlt, by simp, hk⟩)).2 (fun e => (hti.2.2.2 p hlt k hk).1 e.symm)
    · obtain rfl : p = us.length := by simp at hp; omega
      rw [gr, gxr]
      exact Own.keep hrj fun k hk => h3.block k (hrj.lt k hk).2 (fun e => hap k (.inl e.symm) hk)
  · intro p hp k hk
    rcases Nat.lt_or_ge p us.length with hlt | hge
    · rw [gl p hlt] at hk
      refine ⟨(huk p hlt k hk).1, fun q hq hqp => ?_⟩
      rcases Nat.lt_or_ge q us.length with hq' | hq'
      · rw [gl q hq']; exact (hti.2.2.2 p hlt k hk).2 q hq' hqp
      · obtain rfl : q = us.length := by simp at hq; omega
        rw [gr]; exact (huk p hlt k hk).2
    · obtain rfl : p = us.length := by simp at hp; omega
      rw [gr] at hk
      refine ⟨hrk k hk, fun q hq hqp => ?_⟩
      have hq' : q < us.length := by simp at hq; omega
      rw [gl q hq']
      exact fun hk' => (huk q hq' k hk').2 hk
  · rintro k (hk | ⟨p, hp, _, hk⟩)
    · rcases h4 with h4 | h4 | h4
      · exact .inl (.inl (by rw [← h4]; exact hk))
      · rw [h4] at hk
        have := Option.some.inj hk
        exact .inr (.inr (by omega))
      · rw [h4] at hk; cases hk
    · rcases Nat.lt_or_ge p us.length with hlt | hge
      · rw [gl p hlt] at hk
        exact .inl (.inr ⟨p, hlt, by simp, hk⟩)
      · obtain rfl : p = us.length := by simp at hp; omega
        rw [gr] at hk
        exact .inr (.inl hk)
end

end Go.Proofs.Ytgnikdpgndmldaa
