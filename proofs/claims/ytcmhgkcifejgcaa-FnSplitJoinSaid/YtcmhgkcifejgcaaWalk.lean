/-
  The rules of the walk: a list of operations, a region in whatever order, code, loops, calls, memory. No condition.
-/
import Derived.Test.YtcmhgkcifejgcaaHeap
namespace Go.Proofs.Ytcmhgkcifejgcaa
open Go Go.RowKit

section
variable {P : Program} {ops : Array Oper} {Q : Exit → Act → World → Prop} {N : Nat} {C : World → Prop} {rest : List Oper} {l : Sl} {o : Oper} {v : Value} {d : Nat}

def TL (P : Program) (ops : Array Oper) (Q : Exit → Act → World → Prop) (N : Nat) (C : World → Prop) (rest : List Oper) (l : Sl) : Prop := ∀ a w, Slots N l a → C w → wpList P ops Q rest a w
def TQ (P : Program) (ops : Array Oper) (Qa : Act → Prop) (N : Nat) (C : World → Prop) (rest : List Oper) (l : Sl) : Prop := ∀ a, Slots N l a → wpQuiet P ops C Qa rest a
def TC (P : Program) (c : Code) (Q : Exit → Act → World → Prop) (N : Nat) (C : World → Prop) (l : Sl) : Prop := ∀ a w, Slots N l a → C w → c.wp P Q a w
def TN (Q : Exit → Act → World → Prop) (e : Exit) (N : Nat) (C : World → Prop) (l : Sl) : Prop := ∀ a w, Slots N l a → C w → Q e a w

theorem TL.op (hy : Yl P C N l o v) (hd : o.dst = some d) (hb : Nat.blt d N = true) (hg : o.guard = none) (h : TL P ops Q N C rest ((d, v) :: l)) : TL P ops Q N C (o :: rest) l := by
  intro a w hs hc
  refine wpList_plain hg fun K hK => ?_
  refine Oper.wp_of_quiet (K := fun a' => Slots N ((d, v) :: l) a') hc (fun a' w' hc' hs' => hK _ _ (h a' w' hs' hc')) ⟨v, fun w' hw' => hy a w' hs hw', ?_⟩
  rw [hd]; exact hs.put hb v
theorem TL.opw {G : Bool} (hw : ∀ a, Slots N l a → Region.wanted o (yielded ops a.tmps) = G) (hy : G = true → Yl P C N l o v) (hd : o.dst = some d) (hb : Nat.blt d N = true)
    (h : TL P ops Q N C rest ((d, gd G v) :: l)) : TL P ops Q N C (o :: rest) l := by
  intro a w hs hc
  refine wpList_step fun K hK => ?_
  rw [hw a hs]
  cases G with
  | true =>
    refine Oper.wp_of_quiet (K := fun a' => Slots N ((d, gd true v) :: l) a') hc (fun a' w' hc' hs' => hK _ _ (h a' w' hs' hc')) ⟨v, fun w' hw' => hy rfl a w' hs hw', ?_⟩
    rw [hd]; exact hs.put hb v
  | false =>
    simp only [Bool.false_eq_true, if_false]
    refine hK _ _ (h _ _ ?_ hc)
    rw [hd]; exact hs.put hb undef
theorem Slots.again {t : Nat} {u : Value} {a : Act} (hs : Slots N l a) (hl : look l t = some u) : Slots N ((t, u) :: l) a :=
  ⟨hs.size, hs.defers, fun i v hi => by
    rw [look_cons] at hi
    by_cases e : t = i
    · subst e; rw [if_pos rfl] at hi; have := Option.some.inj hi; subst this; exact hs.at_ _ _ hl
    · rw [if_neg e] at hi; exact hs.at_ i v hi⟩
/-- Two ways from here on. -/
theorem TL.split (t : Nat) {b : Bool} (hl : look l t = some (.bool b)) (ht : b = true → TL P ops Q N C rest ((t, .bool true) :: l)) (hf : b = false → TL P ops Q N C rest ((t, .bool false) :: l)) : TL P ops Q N C rest l := fun a w hs hc => by
  cases b with
  | true => exact ht rfl a w (hs.again hl) hc
  | false => exact hf rfl a w (hs.again hl) hc
theorem TL.ung (hw : ∀ a, Slots N l a → Region.wanted o (yielded ops a.tmps) = true) (h : TL P ops Q N C ({ o with guard := none } :: rest) l) : TL P ops Q N C (o :: rest) l := by
  intro a w hs hc
  have h1 := h a w hs hc
  unfold wpList at *
  rw [if_pos (by simp [Region.wanted])] at h1
  rw [if_pos (hw a hs)]
  exact h1
theorem y_pickT {c x y : Operand} {d : Option Tmp} {ty : TypeId} {ps : String} {af : Array Edge} {g : Option (Nat × Bool)} (hc : Ev l c (.bool true)) (hx : Ev l x v) : Ys P C N l ⟨d, .pick c x y, ty, ps, af, g⟩ v := y_pick hc (fun _ => hx) (fun h => by cases h)
theorem y_pickF {c x y : Operand} {d : Option Tmp} {ty : TypeId} {ps : String} {af : Array Edge} {g : Option (Nat × Bool)} (hc : Ev l c (.bool false)) (hy : Ev l y v) : Ys P C N l ⟨d, .pick c x y, ty, ps, af, g⟩ v := y_pick hc (fun h => by cases h) (fun _ => hy)
theorem TQ.op {Qa : Act → Prop} (hy : Yl P C N l o v) (hd : o.dst = some d) (hb : Nat.blt d N = true) (hg : o.guard = none) (h : TQ P ops Qa N C rest ((d, v) :: l)) : TQ P ops Qa N C (o :: rest) l := by
  intro a hs
  unfold wpQuiet
  rw [if_pos (by simp [Region.wanted, hg])]
  refine ⟨v, fun w' hw' => hy a w' hs hw', h _ ?_⟩
  rw [hd]; exact hs.put hb v
theorem TQ.opw {Qa : Act → Prop} {G : Bool} (hw : ∀ a, Slots N l a → Region.wanted o (yielded ops a.tmps) = G) (hy : G = true → Yl P C N l o v) (hd : o.dst = some d) (hb : Nat.blt d N = true)
    (h : TQ P ops Qa N C rest ((d, gd G v) :: l)) : TQ P ops Qa N C (o :: rest) l := by
  intro a hs
  unfold wpQuiet
  rw [hw a hs]
  cases G with
  | true =>
    rw [if_pos rfl]
    refine ⟨v, fun w' hw' => hy rfl a w' hs hw', h _ ?_⟩
    rw [hd]; exact hs.put hb v
  | false =>
    rw [if_neg (by simp)]
    refine h _ ?_
    rw [hd]; exact hs.put hb undef

theorem yielded_gd {j t : Nat} {G b : Bool} {a : Act} (hj : (ops[j]?).bind (·.dst) = some t) (hl : look l t = some (gd G (.bool b))) (hs : Slots N l a) : yielded ops a.tmps j = if G then some b else none := by
  obtain ⟨h1, h2⟩ := hs.at_ t _ hl
  have h3 : a.tmps[t]? = some (gd G (.bool b)) := by
    have : t < a.tmps.size := by rw [hs.size]; exact h1
    rw [← h2]; simp [this]
  unfold yielded
  rw [hj]
  simp only [Option.bind_some, h3]
  cases G <;> simp [gd, undef]
theorem w_t {j t : Nat} {b : Bool} (hg : o.guard = some (j, true)) (hj : (ops[j]?).bind (·.dst) = some t) (hl : look l t = some (.bool b)) : ∀ a, Slots N l a → Region.wanted o (yielded ops a.tmps) = b := fun a hs => by
  have := yielded_gd (G := true) hj hl hs
  simp only [Region.wanted, hg, this]; cases b <;> rfl
theorem w_f {j t : Nat} {b : Bool} (hg : o.guard = some (j, false)) (hj : (ops[j]?).bind (·.dst) = some t) (hl : look l t = some (.bool b)) : ∀ a, Slots N l a → Region.wanted o (yielded ops a.tmps) = !b := fun a hs => by
  have := yielded_gd (G := true) hj hl hs
  simp only [Region.wanted, hg, this]; cases b <;> rfl
theorem w_gt {j t : Nat} {G b : Bool} (hg : o.guard = some (j, true)) (hj : (ops[j]?).bind (·.dst) = some t) (hl : look l t = some (gd G (.bool b))) : ∀ a, Slots N l a → Region.wanted o (yielded ops a.tmps) = (G && b) := fun a hs => by
  have := yielded_gd hj hl hs
  simp only [Region.wanted, hg, this]; cases G <;> cases b <;> rfl
theorem w_gf {j t : Nat} {G b : Bool} (hg : o.guard = some (j, false)) (hj : (ops[j]?).bind (·.dst) = some t) (hl : look l t = some (gd G (.bool b))) : ∀ a, Slots N l a → Region.wanted o (yielded ops a.tmps) = (G && !b) := fun a hs => by
  have := yielded_gd hj hl hs
  simp only [Region.wanted, hg, this]; cases G <;> cases b <;> rfl

theorem TL.nil (h : TN Q .normal N C l) : TL P ops Q N C [] l := fun a w hs hc => h a w hs hc
theorem TQ.nil (h : TN Q .normal N C l) : TQ P ops (fun a' => ∀ w', C w' → Q .normal a' w') N C [] l := fun a hs w hc => h a w hs hc
theorem TL.raw (hg : o.guard = none) (h : ∀ a w, Slots N l a → C w → o.wp P a w (wpList P ops Q rest) Q) : TL P ops Q N C (o :: rest) l := by
  intro a w hs hc
  unfold wpList
  rw [if_pos (by simp [Region.wanted, hg])]
  exact .inl (h a w hs hc)

theorem TC.region {id : Nat} {os : List Oper} (h : TL P os.toArray Q N C os l) : TC P (.region id os.toArray false) Q N C l := fun a w hs hc => wp_region_lit (h a w hs hc)
/-- Such a class is closed under draws. -/
def Dr (C : World → Prop) : Prop := ∀ w, C w → C { w with drawn := w.drawn + 1 }
theorem TC.regionQ {id : Nat} {os : List Oper} (hm : P.follows .mixedOrders = true) (hB : Region.lexB .any os.toArray = true) (hC : Dr C)
    (h : TQ P os.toArray (fun a' => ∀ w', C w' → Q .normal a' w') N C os l) : TC P (.region id os.toArray true) Q N C l := fun a w hs hc =>
  wp_region_quiet hm hB (hC w hc) (by simpa using h a hs)
theorem dr_hp {w0 : World} {os : List Ck} : Dr (Hp w0 os) := fun _ h => h.drew

theorem TC.seq {x y : Code} (h : TC P x (Exit.then (y.wp P Q) Q) N C l) : TC P (.seq x y) Q N C l := fun a w hs hc => wp_seq (h a w hs hc)
theorem TC.skip (h : TN Q .normal N C l) : TC P .skip Q N C l := fun a w hs hc => wp_skip (h a w hs hc)
theorem TC.ret (h : TN Q .ret N C l) : TC P .ret Q N C l := fun a w hs hc => wp_ret (h a w hs hc)
theorem TC.exit {id : Nat} (h : TN Q (.exit id) N C l) : TC P (.exit id) Q N C l := fun a w hs hc => wp_exit (h a w hs hc)
theorem TC.block {id : Nat} {c : Code} (h : TC P c (Exit.inBlock id Q) N C l) : TC P (.block id c) Q N C l := fun a w hs hc => wp_block (h a w hs hc)
theorem TC.cond {x : Operand} {b : Bool} {c1 c2 : Code} (hx : Ev l x (.bool b)) (ht : b = true → TC P c1 Q N C l) (hf : b = false → TC P c2 Q N C l) : TC P (.cond x c1 c2) Q N C l := fun a w hs hc =>
  wp_cond_split (hx N a hs) (fun hb => ht hb a w hs hc) (fun hb => hf hb a w hs hc)

theorem TC.condT {x : Operand} {b : Bool} {c1 c2 : Code} (hx : Ev l x (.bool b)) (hb : b = true) (ht : TC P c1 Q N C l) : TC P (.cond x c1 c2) Q N C l := TC.cond hx (fun _ => ht) (fun h => by rw [hb] at h; cases h)
theorem TC.condF {x : Operand} {b : Bool} {c1 c2 : Code} (hx : Ev l x (.bool b)) (hb : b = false) (hf : TC P c2 Q N C l) : TC P (.cond x c1 c2) Q N C l := TC.cond hx (fun h => by rw [hb] at h; cases h) (fun _ => hf)
theorem TN.seq {y : Code} (h : TC P y Q N C l) : TN (Exit.then (y.wp P Q) Q) .normal N C l := h
theorem TN.thenR {K : Act → World → Prop} (h : TN Q .ret N C l) : TN (Exit.then K Q) .ret N C l := h
theorem TN.thenE {K : Act → World → Prop} {id : Nat} (h : TN Q (.exit id) N C l) : TN (Exit.then K Q) (.exit id) N C l := h
theorem TN.blockN {id : Nat} (h : TN Q .normal N C l) : TN (Exit.inBlock id Q) .normal N C l := h
theorem TN.blockR {id : Nat} (h : TN Q .ret N C l) : TN (Exit.inBlock id Q) .ret N C l := h
theorem TN.blockH {id : Nat} (h : TN Q .normal N C l) : TN (Exit.inBlock id Q) (.exit id) N C l := fun a w hs hc => by
  show (if id = id then Q .normal a w else Q (.exit id) a w); rw [if_pos rfl]; exact h a w hs hc
theorem TN.blockM {id id' : Nat} (hne : Nat.beq id' id = false) (h : TN Q (.exit id') N C l) : TN (Exit.inBlock id Q) (.exit id') N C l := fun a w hs hc => by
  show (if id' = id then Q .normal a w else Q (.exit id') a w); rw [if_neg (by intro e; subst e; simp at hne)]; exact h a w hs hc

/-- The slots that count; a wider class. -/
theorem TC.norm (l' : Sl) {c : Code} (hs : Subl l' l) (h : TC P c Q N C l') : TC P c Q N C l := fun a w h1 h2 => h a w (h1.sub hs) h2
theorem TC.cls {C' : World → Prop} {c : Code} (hc : ∀ w, C w → C' w) (h : TC P c Q N C' l) : TC P c Q N C l := fun a w h1 h2 => h a w h1 (hc w h2)
theorem TL.cls {C' : World → Prop} (hc : ∀ w, C w → C' w) (h : TL P ops Q N C' rest l) : TL P ops Q N C rest l := fun a w h1 h2 => h a w h1 (hc w h2)
theorem TN.cls {e : Exit} {C' : World → Prop} (hc : ∀ w, C w → C' w) (h : TN Q e N C' l) : TN Q e N C l := fun a w h1 h2 => h a w h1 (hc w h2)
theorem TN.norm {e : Exit} (l' : Sl) (hs : Subl l' l) (h : TN Q e N C l') : TN Q e N C l := fun a w h1 h2 => h a w (h1.sub hs) h2
theorem TL.ex {ι : Type} {D : ι → World → Prop} (h : ∀ i, TL P ops Q N (D i) rest l) : TL P ops Q N (fun w => ∃ i, D i w) rest l := fun a w hs ⟨i, hi⟩ => h i a w hs hi
theorem TL.pr {p : Prop} (h : p → TL P ops Q N C rest l) : TL P ops Q N (fun w => p ∧ C w) rest l := fun a w hs hc => h hc.1 a w hs hc.2
theorem TC.ex {ι : Type} {D : ι → World → Prop} {c : Code} (h : ∀ i, TC P c Q N (D i) l) : TC P c Q N (fun w => ∃ i, D i w) l := fun a w hs ⟨i, hi⟩ => h i a w hs hi
theorem TC.pr {p : Prop} {c : Code} (h : p → TC P c Q N C l) : TC P c Q N (fun w => p ∧ C w) l := fun a w hs hc => h hc.1 a w hs hc.2

/-- Ways that meet again: each comes to what R says. -/
theorem TC.cut {x y : Code} (R : Act → World → Prop) (h : TC P x (Exit.then R Q) N C l) (h2 : ∀ a w, R a w → y.wp P Q a w) : TC P (.seq x y) Q N C l := fun a w hs hc =>
  wp_seq (Code.wp_mono (fun e a' w' q => by cases e <;> first | exact h2 _ _ q | exact q) (h a w hs hc))

/-! loops -/
def Hand {ι : Type} (μ : ι → Nat) (J : ι → Prop) (L : ι → Sl) (D : ι → World → Prop) (N : Nat) (i : ι) : Act → World → Prop := fun a w => ∃ j, J j ∧ μ j < μ i ∧ Slots N (L j) a ∧ D j w
theorem TC.loop {ι : Type} {c : Code} (L : ι → Sl) (D : ι → World → Prop) (J : ι → Prop) (μ : ι → Nat) (i0 : ι) (hJ : J i0) (hS : Subl (L i0) l) (hC : ∀ w, C w → D i0 w)
    (round : ∀ i, J i → TC P c (Exit.then (Hand μ J L D N i) Q) N (D i) (L i)) : TC P (.loop c) Q N C l := by
  intro a w hs hc
  refine wp_loop_ghost (fun n a w => ∃ i, J i ∧ μ i = n ∧ Slots N (L i) a ∧ D i w) (μ i0) ⟨i0, hJ, rfl, hs.sub hS, hC w hc⟩ ?_
  rintro n a w ⟨i, hi, rfl, h1, h2⟩
  refine Code.wp_mono (fun e a' w' q => ?_) (round i hi a w h1 h2)
  cases e with
  | normal => obtain ⟨j, hj, hlt, h3, h4⟩ := q; exact ⟨μ j, hlt, j, hj, rfl, h3, h4⟩
  | _ => exact q
theorem TN.hand {ι : Type} {μ : ι → Nat} {J : ι → Prop} {L : ι → Sl} {D : ι → World → Prop} {i : ι} (j : ι) (hJ : J j) (hμ : μ j < μ i) (hS : Subl (L j) l) (hC : ∀ w, C w → D j w) :
    TN (Exit.then (Hand μ J L D N i) Q) .normal N C l := fun _ w hs hc => ⟨j, hJ, hμ, hs.sub hS, hC w hc⟩

/-! entering and leaving a function -/
def nums : Nat → List Value → Sl
  | _, [] => []
  | i, v :: vs => (i, v) :: nums (i + 1) vs
theorem look_nums : ∀ (vs : List Value) (i j : Nat) (u : Value), look (nums i vs) j = some u → i ≤ j ∧ vs[j - i]? = some u
  | [], _, _, _, h => by simp [nums, look] at h
  | v :: vs, i, j, u, h => by
    simp only [nums, look_cons] at h
    by_cases e : i = j
    · subst e
      rw [if_pos rfl] at h
      exact ⟨Nat.le_refl _, by simpa using h⟩
    · rw [if_neg e] at h
      obtain ⟨h1, h2⟩ := look_nums vs (i + 1) j u h
      refine ⟨by omega, ?_⟩
      rw [show j - i = (j - (i + 1)) + 1 by omega]
      simpa using h2
theorem calls_tc {f : FuncId} {fn : Func} {c : Code} {args : List Value} {w : World} {R : Ending → World → Prop} (hf : P.funcs[f]? = some fn) (hb : fn.body = some c) (hN : fn.ntmps = N)
    (ha : Nat.ble args.length N = true) (h : TC P c (bodyPost P fn R) N (Hp w []) (nums 0 args)) : Calls P f args.toArray w R := by
  refine calls_of_wp hf hb (h _ _ ?_ (Hp.start w))
  have ha' : args.length ≤ N := Nat.le_of_ble_eq_true ha
  refine ⟨by simp [hN]; omega, rfl, ?_⟩
  intro i v hi
  obtain ⟨_, h2⟩ := look_nums args 0 i v hi
  simp only [Nat.sub_zero] at h2
  have hlt : i < args.length := (List.getElem?_eq_some_iff.1 h2).1
  refine ⟨by omega, ?_⟩
  have h3 : args[i] = v := (List.getElem?_eq_some_iff.1 h2).2
  simp [Array.getElem?_append, hlt, h3]

/-- What a call hands back. -/
def Ret (v : Value) (D : World → Prop) : Ending → World → Prop := fun e w' => e = .returned v ∧ D w'

theorem TN.ret1 {fn : Func} {R : Ending → World → Prop} {t : Nat} (hr : fn.results = #[.tmp t]) (hv : Ev l (.tmp t) v) (h : ∀ w, C w → R (.returned v) w) : TN (bodyPost P fn R) .ret N C l := fun a w hs hc =>
  ⟨hs.defers, v, by rw [results_tmp hr]; congr 1; exact hv N a hs, h w hc⟩
theorem TN.ret2 {fn : Func} {R : Ending → World → Prop} {t u : Nat} {v' : Value} (hr : fn.results = #[.tmp t, .tmp u]) (hv : Ev l (.tmp t) v) (hv' : Ev l (.tmp u) v') (h : ∀ w, C w → R (.returned (.tuple #[v, v'])) w) : TN (bodyPost P fn R) .ret N C l := fun a w hs hc =>
  ⟨hs.defers, .tuple #[v, v'], by rw [results_tmp2 hr]; have h1 := hv N a hs; have h2 := hv' N a hs; simp only [Act.eval] at h1 h2; rw [h1, h2], h w hc⟩
theorem TN.ret3 {fn : Func} {R : Ending → World → Prop} {t u s : Nat} {v' v'' : Value} (hr : fn.results = #[.tmp t, .tmp u, .tmp s]) (hv : Ev l (.tmp t) v) (hv' : Ev l (.tmp u) v') (hv'' : Ev l (.tmp s) v'') (h : ∀ w, C w → R (.returned (.tuple #[v, v', v''])) w) : TN (bodyPost P fn R) .ret N C l := fun a w hs hc =>
  ⟨hs.defers, .tuple #[v, v', v''], by
    have h1 := hv N a hs; have h2 := hv' N a hs; have h3 := hv'' N a hs; simp only [Act.eval] at h1 h2 h3
    simp [results, hr, ← h1, ← h2, ← h3], h w hc⟩

/-! calls -/
/-- Function k has a body, and is entered. -/
def En (P : Program) (k : FuncId) : Prop := ∀ args w, (callFunc k args).run P w = .ok (.enter k args) w
theorem en_of {k : FuncId} {fn : Func} (h : P.funcs[k]? = some fn) (hn : (fn.name == "runtime.NumGoroutine") = false) (hb : fn.body.isNone = false) : En P k := fun args w => by
  have hn' : ¬ fn.name = "runtime.NumGoroutine" := by simpa using hn
  have hb' : ¬ fn.body = none := by intro e; rw [e] at hb; simp at hb
  simp [callFunc, h, hn', hb']

variable {ty : TypeId} {ps : String} {af : Array Edge} {g : Option (Nat × Bool)} {k : FuncId} {xs : List Operand} {vs : List Value} {ats : Array TypeId}

theorem run_call {a : Act} {w : World} {dd : Option Tmp} (he : En P k) (hv : Evs l xs vs) (hs : Slots N l a) :
    (execOp a.eval ⟨dd, .call { callee := .value (.func k), args := xs.toArray, argTypes := ats }, ty, ps, af, g⟩).run P w = .ok (.enter k vs.toArray) w := by
  have h1 : execOp a.eval ⟨dd, .call { callee := .value (.func k), args := xs.toArray, argTypes := ats }, ty, ps, af, g⟩ = callFunc k vs.toArray := by
    have := hv.eq N a hs
    simp [execOp, resolve, Deferred.ofValue, invoke, Act.eval, this]
  rw [h1]; exact he _ _
theorem run_callv {a : Act} {w : World} {dd : Option Tmp} {t : Nat} {cap : List Value} (he : En P k) (hf : Ev l (.tmp t) (.func (.func k) #[] cap.toArray)) (hv : Evs l xs vs) (hs : Slots N l a) :
    (execOp a.eval ⟨dd, .call { callee := .value (.tmp t), args := xs.toArray, argTypes := ats }, ty, ps, af, g⟩).run P w = .ok (.enter k (vs ++ cap).toArray) w := by
  have h1 : execOp a.eval ⟨dd, .call { callee := .value (.tmp t), args := xs.toArray, argTypes := ats }, ty, ps, af, g⟩ = callFunc k (vs ++ cap).toArray := by
    have := hv.eq N a hs
    simp [execOp, resolve, Deferred.ofValue, invoke, hf N a hs, this]
  rw [h1]; exact he _ _

variable {w0 : World} {os : List Ck} {dd : Option Tmp}
/-- A call that hands back one value in every world of the class, and owns nothing. -/
theorem y_call (he : En P k) (hv : Evs l xs vs) (hc : ∀ w, Hp w0 os w → Calls P k vs.toArray w (Ret v (Hp w []))) :
    Yl P (Hp w0 os) N l ⟨dd, .call { callee := .value (.func k), args := xs.toArray, argTypes := ats }, ty, ps, af, g⟩ v := fun a w hs hw => by
  rw [run_call he hv hs]
  exact ⟨rfl, (hc w hw).mono fun e w' ⟨h1, h2⟩ => ⟨h1, hw.after0 h2⟩⟩
theorem y_callv {t : Nat} {cap : List Value} (he : En P k) (hf : Ev l (.tmp t) (.func (.func k) #[] cap.toArray)) (hv : Evs l xs vs) (hc : ∀ w, Hp w0 os w → Calls P k (vs ++ cap).toArray w (Ret v (Hp w []))) :
    Yl P (Hp w0 os) N l ⟨dd, .call { callee := .value (.tmp t), args := xs.toArray, argTypes := ats }, ty, ps, af, g⟩ v := fun a w hs hw => by
  rw [run_callv he hf hv hs]
  exact ⟨rfl, (hc w hw).mono fun e w' ⟨h1, h2⟩ => ⟨h1, hw.after0 h2⟩⟩
/-- A call of whatever make. -/
theorem TL.call {D : Value → World → Prop} (he : En P k) (hv : Evs l xs vs) (hb : Nat.blt d N = true) (hc : ∀ w, C w → Calls P k vs.toArray w (fun e w' => ∃ v, e = .returned v ∧ D v w'))
    (h : ∀ v, TL P ops Q N (D v) rest ((d, v) :: l)) :
    TL P ops Q N C (⟨some d, .call { callee := .value (.func k), args := xs.toArray, argTypes := ats }, ty, ps, af, none⟩ :: rest) l := TL.raw rfl fun a w hs hw => by
  unfold Oper.wp
  rw [run_call he hv hs, Oper.upon_enter]
  refine (hc w hw).mono fun e w' ⟨v, h1, h2⟩ => ?_
  subst h1
  exact h v _ _ (hs.put hb v) h2
theorem TL.callv {D : Value → World → Prop} {t : Nat} {cap : List Value} (he : En P k) (hf : Ev l (.tmp t) (.func (.func k) #[] cap.toArray)) (hv : Evs l xs vs) (hb : Nat.blt d N = true)
    (hc : ∀ w, C w → Calls P k (vs ++ cap).toArray w (fun e w' => ∃ v, e = .returned v ∧ D v w')) (h : ∀ v, TL P ops Q N (D v) rest ((d, v) :: l)) :
    TL P ops Q N C (⟨some d, .call { callee := .value (.tmp t), args := xs.toArray, argTypes := ats }, ty, ps, af, none⟩ :: rest) l := TL.raw rfl fun a w hs hw => by
  unfold Oper.wp
  rw [run_callv he hf hv hs, Oper.upon_enter]
  refine (hc w hw).mono fun e w' ⟨v, h1, h2⟩ => ?_
  subst h1
  exact h v _ _ (hs.put hb v) h2
theorem TL.call0 {D : World → Prop} (he : En P k) (hv : Evs l xs vs) (hc : ∀ w, C w → Calls P k vs.toArray w (fun e w' => ∃ v, e = .returned v ∧ D w'))
    (h : TL P ops Q N D rest l) :
    TL P ops Q N C (⟨none, .call { callee := .value (.func k), args := xs.toArray, argTypes := ats }, ty, ps, af, none⟩ :: rest) l := TL.raw rfl fun a w hs hw => by
  unfold Oper.wp
  rw [run_call he hv hs, Oper.upon_enter]
  refine (hc w hw).mono fun e w' ⟨v, h1, h2⟩ => ?_
  subst h1
  exact h _ _ hs h2
end

end Go.Proofs.Ytcmhgkcifejgcaa
