/-
  Part of a proof: rules of the walk, plain functions and their laws, walks. No condition.
-/
import Derived.Test.YtcmhgkcifejgcaaKLeastRows2
import Derived.Laws.Cover3
import Derived.Test.YtcmhgkcifejgcaaProg
namespace Go.Proofs.Ytcmhgkcifejgcaa
set_option linter.unusedVariables false
set_option linter.unusedSimpArgs false
open Go Go.RowKit

/-- What a loop of a plain function comes to: it goes on behind it, or it has returned. -/
inductive Ctl (S R : Type) where
  | next (s : S)
  | ret (r : R)
instance {S R : Type} [Inhabited R] : Inhabited (Ctl S R) := ⟨.ret default⟩
def Ctl.elim {S R T : Type} (c : Ctl S R) (f : S → T) (g : R → T) : T := match c with
  | .next s => f s
  | .ret r => g r
theorem elim_next {S R T : Type} (s : S) (f : S → T) (g : R → T) : (Ctl.next s : Ctl S R).elim f g = f s := rfl
theorem elim_ret {S R T : Type} (r : R) (f : S → T) (g : R → T) : (Ctl.ret r : Ctl S R).elim f g = g r := rfl
theorem bif_t {α : Type} (a b : α) : cond true a b = a := rfl
theorem bif_f {α : Type} (a b : α) : cond false a b = b := rfl
theorem bif_pos {α : Type} {c : Bool} (h : c = true) (a b : α) : cond c a b = a := by subst h; rfl
theorem bif_neg {α : Type} {c : Bool} (h : c = false) (a b : α) : cond c a b = b := by subst h; rfl
theorem and_l {a b : Bool} (h : (a && b) = true) : a = true := by cases a <;> simp_all
theorem gand {a b : Bool} (h1 : a = true) (h2 : b = true) : (a && b) = true := by simp [h1, h2]
theorem not_t {a : Bool} (h : (!a) = true) : a = false := by cases a <;> simp_all
theorem not_f {a : Bool} (h : (!a) = false) : a = true := by cases a <;> simp_all
theorem or_t {a b : Bool} (h : (a || b) = true) : a = true ∨ b = true := by cases a <;> simp_all
theorem or_f {a b : Bool} (h : (a || b) = false) : a = false ∧ b = false := by cases a <;> simp_all
theorem and_t {a b : Bool} (h : (a && b) = true) : a = true ∧ b = true := by cases a <;> simp_all
theorem and_f {a b : Bool} (h : (a && b) = false) : a = false ∨ b = false := by cases a <;> simp_all
theorem and_imp {a b c d : Prop} (h : a ∧ b) (f : a → c) (g : b → d) : c ∧ d := ⟨f h.1, g h.2⟩
theorem arg_len {v : Value} {w : World} {xs : List Int} (h : RI w v xs) : xs.length ≤ 9223372036854775807 := h.2.1
theorem argT_len {v : Value} {w : World} {us : List Value} {xss : List (List Int)} (h : RII w v us xss) : xss.length ≤ 9223372036854775807 := h.1.2.1

section
variable {P : Program} {ops : Array Oper} {Q : Exit → Act → World → Prop} {N : Nat} {C : World → Prop} {rest : List Oper} {l : Sl} {v : Value} {d : Nat}
variable {dd : Option Tmp} {ty : TypeId} {ps : String} {af : Array Edge} {g : Option (Nat × Bool)} {x y : Operand} {t t' e e' : TypeId} {z : Value} {sz bytes n m : Nat} {xs ys : List Value}
variable {w0 : World} {os : List Ck} {k : FuncId} {ars : List Operand} {vs : List Value} {ats : Array TypeId}

theorem TL.callr {ι : Type} (ret : ι → Value) (rs : ι → List Ck) (he : En P k) (hv : Evs l ars vs) (hb : Nat.blt d N = true)
    (hc : ∀ w, Hp w0 os w → Calls P k vs.toArray w (fun e w' => ∃ i, e = .returned (ret i) ∧ Hp w (rs i) w')) (h : ∀ i, TL P ops Q N (Hp w0 (rs i ++ os)) rest ((d, ret i) :: l)) :
    TL P ops Q N (Hp w0 os) (⟨some d, .call { callee := .value (.func k), args := ars.toArray, argTypes := ats }, ty, ps, af, none⟩ :: rest) l :=
  TL.call (D := fun v w' => ∃ i, v = ret i ∧ Hp w0 (rs i ++ os) w') he hv hb (fun w hw => (hc w hw).mono fun _ _ ⟨i, h1, h2⟩ => ⟨_, h1, i, rfl, hw.after h2⟩)
    (fun v a w hs ⟨i, h1, h2⟩ => by subst h1; exact h i a w hs h2)
theorem TL.callrv {ι : Type} (ret : ι → Value) (rs : ι → List Ck) {f : Nat} {cap : List Value} (he : En P k) (hf : Ev l (.tmp f) (.func (.func k) #[] cap.toArray)) (hv : Evs l ars vs) (hb : Nat.blt d N = true)
    (hc : ∀ w, Hp w0 os w → Calls P k (vs ++ cap).toArray w (fun e w' => ∃ i, e = .returned (ret i) ∧ Hp w (rs i) w')) (h : ∀ i, TL P ops Q N (Hp w0 (rs i ++ os)) rest ((d, ret i) :: l)) :
    TL P ops Q N (Hp w0 os) (⟨some d, .call { callee := .value (.tmp f), args := ars.toArray, argTypes := ats }, ty, ps, af, none⟩ :: rest) l :=
  TL.callv (D := fun v w' => ∃ i, v = ret i ∧ Hp w0 (rs i ++ os) w') he hf hv hb (fun w hw => (hc w hw).mono fun _ _ ⟨i, h1, h2⟩ => ⟨_, h1, i, rfl, hw.after h2⟩)
    (fun v a w hs ⟨i, h1, h2⟩ => by subst h1; exact h i a w hs h2)
/-- A call that writes into a chunk: its contract holds over whatever else is owned. -/
theorem TL.callm {ι : Type} (i : Nat) {c : Ck} (ret : ι → Value) (c' : ι → Ck) (he : En P k) (hv : Evs l ars vs) (hb : Nat.blt d N = true) (ho : os[i]? = some c)
    (hc : ∀ w fr, Hp w0 (c :: fr) w → Calls P k vs.toArray w (fun e w' => ∃ j, e = .returned (ret j) ∧ Hp w0 (c' j :: fr) w')) (h : ∀ j, TL P ops Q N (Hp w0 (os.set i (c' j))) rest ((d, ret j) :: l)) :
    TL P ops Q N (Hp w0 os) (⟨some d, .call { callee := .value (.func k), args := ars.toArray, argTypes := ats }, ty, ps, af, none⟩ :: rest) l := by
  obtain ⟨hlt, hget⟩ := List.getElem?_eq_some_iff.1 ho
  have p1 : (c :: os.eraseIdx i).Perm os := by
    rw [← hget]
    have h := List.perm_middle (a := os[i]) (l₁ := os.take i) (l₂ := os.drop (i + 1))
    have e1 : os.take i ++ os[i] :: os.drop (i + 1) = os := by rw [← List.drop_eq_getElem_cons hlt, List.take_append_drop]
    rw [e1] at h
    rw [List.eraseIdx_eq_take_drop_succ]
    exact h.symm
  have p2 : ∀ c', (os.set i c').Perm (c' :: os.eraseIdx i) := fun c' => by
    rw [List.set_eq_take_append_cons_drop, if_pos hlt, List.eraseIdx_eq_take_drop_succ]
    exact List.perm_middle
  exact TL.call (D := fun v w' => ∃ j, v = ret j ∧ Hp w0 (os.set i (c' j)) w') he hv hb (fun w hw => (hc w (os.eraseIdx i) (hw.perm p1)).mono fun _ _ ⟨j, h1, h2⟩ => ⟨_, h1, j, rfl, h2.perm (p2 _)⟩)
    (fun v a w hs ⟨i, h1, h2⟩ => by subst h1; exact h i a w hs h2)
theorem calls_tcm {f : FuncId} {fn : Func} {c : Code} {args : List Value} {w : World} {R : Ending → World → Prop} (hf : P.funcs[f]? = some fn) (hb : fn.body = some c) (hN : fn.ntmps = N)
    (ha : Nat.ble args.length N = true) (hw : C w) (h : TC P c (bodyPost P fn R) N C (nums 0 args)) : Calls P f args.toArray w R := by
  refine calls_of_wp hf hb (h _ _ ?_ hw)
  have ha' : args.length ≤ N := Nat.le_of_ble_eq_true ha
  refine ⟨by simp [hN]; omega, rfl, ?_⟩
  intro i v hi
  obtain ⟨_, h2⟩ := look_nums args 0 i v hi
  simp only [Nat.sub_zero] at h2
  have hlt : i < args.length := (List.getElem?_eq_some_iff.1 h2).1
  refine ⟨by omega, ?_⟩
  have h3 : args[i] = v := (List.getElem?_eq_some_iff.1 h2).2
  simp [Array.getElem?_append, hlt, h3]

/-! tables -/
theorem y_ldn {k : Nat} (hx : Ev l x (pt v k 1)) (hT : One P t) (hr : ∀ w, C w → Rd w v 1 n xs) (hlt : k < n) : Ys P C N l ⟨dd, .load t x, ty, ps, af, g⟩ (xs.getD k undef) := yl_of fun a w hs hc => by
  obtain ⟨e1, e2, A, c, rfl, e4, e5, e6⟩ := hr w hc
  obtain ⟨ad, rfl, _, hcell⟩ := e6 (by omega)
  have hk : k < xs.length := by omega
  have h1 := hcell k xs[k] (List.getElem?_eq_getElem hk)
  have h2 : a.eval x = .pointer (some (ad.add (k * 1))) := hx N a hs
  rw [Nat.mul_one] at h2
  simp [execOp, h2, Instr.loadAt, Instr.sureAddr, loadVar, hT.1 w, h1, hk]
theorem y_ldA {k : Nat} {us : List Value} {xss : List (List Int)} (hx : Ev l x (pt v k 1)) (hT : One P t) (hr : ∀ w, C w → RII w v us xss) (hlt : k < xss.length) : Ys P C N l ⟨dd, .load t x, ty, ps, af, g⟩ (us.getD k undef) :=
  y_ldn hx hT (fun w hw => (hr w hw).1) hlt
theorem y_ldT (i : Nat) {k : Nat} {us : List Value} {xss : List (List Int)} (hx : Ev l x (pt v k 1)) (hT : One P t) (ho : os[i]? = some (.tab v e e' us xss none)) (hlt : k < xss.length) : Ys P (Hp w0 os) N l ⟨dd, .load t x, ty, ps, af, g⟩ (us.getD k undef) :=
  y_ldn hx hT (fun w hw => (rii_tab i ho w hw).1) hlt

/-! stores -/
theorem run_storeAt {w : World} {ad : Addr} {u v' : Value} (hT : One P t) (hc : w.cell? ad = some v') (hf : w.frozen? ad = false) (h1 : u.oneCell' = true) : (Instr.storeAt t (.pointer (some ad)) u).run P w = .ok () (w.setCell ad u) := by
  obtain ⟨i, hi, his⟩ := Option.map_eq_some_iff.1 hT.2
  have hcl : u.cells = #[u] := by cases u <;> first | rfl | (simp [Value.oneCell'] at h1)
  have hst := run_store P w ad u .plain h1
  rw [hc, hf] at hst
  simp only [Bool.false_eq_true, if_false] at hst
  have ha : ad.add 0 = ad := by simp [Addr.add]
  simp [Instr.storeAt, Instr.sureAddr, storeVar, sizeOf, typeInfo, hi, his, hcl, storeCells, ha, hst]
theorem TL.store (i : Nat) {k : Nat} {u : Value} (hx : Ev l x (pt v k 1)) (hy : Ev l y u) (hT : One P t) (ho : os[i]? = some (.row v e 1 n xs)) (hlt : k < n) (h1 : u.oneCell' = true)
    (h : TL P ops Q N (Hp w0 (os.set i (.row v e 1 n (xs.set k u)))) rest l) :
    TL P ops Q N (Hp w0 os) (⟨none, .store t x y, ty, ps, af, none⟩ :: rest) l := TL.raw rfl fun a w hs hw => by
  have hr := hw.get i ho
  have h2 : a.eval x = pt v k 1 := hx N a hs
  rcases hr.2 with ⟨_, rfl⟩ | ⟨b, cap, cur, rfl, hc0, hb, hg, hnc, hcm, hcs, htk⟩
  · omega
  · have hk : k < n * 1 := by omega
    have hlen : xs.length = n * 1 := hr.1
    have hr : w.ownsRow w0.heap.size e 1 (.slice (some ⟨b, 0, none⟩) n cap) n xs := ⟨hr.1, .inr ⟨b, cap, cur, rfl, hb, hg, hnc, hcm, hcs, htk⟩⟩
    have hc : w.cell? ⟨b, k, none⟩ = xs[k]? := World.ownsRow.cellAt hr k hk
    rw [List.getElem?_eq_getElem (by omega)] at hc
    have hf : w.frozen? ⟨b, k, none⟩ = false := World.ownsRow.frozenAt hr k
    obtain ⟨s1, s2⟩ := World.ownsRow.stored hr k u
    have hadd : (⟨b, 0, none⟩ : Addr).add (k * 1) = ⟨b, k, none⟩ := by rw [Addr.add_lit]; simp
    have hrun := run_storeAt (P := P) (t := t) (u := u) hT hc hf h1
    simp only [pt, hadd] at h2
    unfold Oper.wp
    simp only [execOp, h2, hy N a hs, Sem.run_bind, hrun, Result.andThen_ok, Sem.run_pure, Oper.upon]
    exact h _ _ hs (hw.turn_at i ho s2.os s2.tape s2.output s2.size (fun q hq hne => s2.block q hq (fun e => hne ((own_obk hc0).trans e.symm))) (Own.of s1) (fun q hq => .inl hq))
theorem TL.storeI (i : Nat) {k : Nat} {zs : List Int} {q : Int} (hx : Ev l x (pt v k 1)) (hy : Ev l y (int q)) (hT : One P t) (ho : os[i]? = some (rowI e v zs)) (hlt : k < zs.length)
    (h : TL P ops Q N (Hp w0 (os.set i (rowI e v (zs.set k q)))) rest l) : TL P ops Q N (Hp w0 os) (⟨none, .store t x y, ty, ps, af, none⟩ :: rest) l :=
  TL.store i hx hy hT ho hlt rfl (by
    have e1 : (ints zs).set k (int q) = ints (zs.set k q) := by simp [ints, List.map_set]
    rw [e1]
    simpa only [rowI, List.length_set] using h)
/-- A store into a row of a table. -/
theorem TL.storeT (i : Nat) {j k : Nat} {us : List Value} {xss : List (List Int)} {q : Int} (hx : Ev l x (pt (us.getD j undef) k 1)) (hy : Ev l y (int q)) (hT : One P t) (ho : os[i]? = some (tabI e e' v us xss)) (hj : j < xss.length) (hlt : k < (xss.getD j []).length)
    (h : TL P ops Q N (Hp w0 (os.set i (tabI e e' v us (xss.set j ((xss.getD j []).set k q))))) rest l) : TL P ops Q N (Hp w0 os) (⟨none, .store t x y, ty, ps, af, none⟩ :: rest) l := TL.raw rfl fun a w hs hw => by
  have ht := hw.get i ho
  have hjl : j < us.length := by rw [ht.2.1]; exact hj
  have hr : Own w w0.heap.size e' 1 (us.getD j undef) (xss.getD j []).length (ints (xss.getD j [])) := ht.2.2.1 j hjl (by simp)
  have h2 : a.eval x = pt (us.getD j undef) k 1 := hx N a hs
  have hD := ht.2.2.2
  obtain ⟨u, hu⟩ : ∃ u, us.getD j undef = u := ⟨_, rfl⟩
  obtain ⟨zs, hz⟩ : ∃ zs, xss.getD j [] = zs := ⟨_, rfl⟩
  rw [hu] at h2 hr
  rw [hz] at hr hlt h
  rcases hr.2 with ⟨_, h0⟩ | ⟨b, cap, cur, rfl, hc0, hb, hg, hnc, hcm, hcs, htk⟩
  · omega
  · have hlen : (ints zs).length = zs.length * 1 := hr.1
    have hr : w.ownsRow w0.heap.size e' 1 (.slice (some ⟨b, 0, none⟩) zs.length cap) zs.length (ints zs) := ⟨hr.1, .inr ⟨b, cap, cur, rfl, hb, hg, hnc, hcm, hcs, htk⟩⟩
    have hc : w.cell? ⟨b, k, none⟩ = (ints zs)[k]? := World.ownsRow.cellAt hr k (by omega)
    rw [List.getElem?_eq_getElem (by omega)] at hc
    have hf : w.frozen? ⟨b, k, none⟩ = false := World.ownsRow.frozenAt hr k
    obtain ⟨s1, s2⟩ := World.ownsRow.stored hr k (int q)
    have e1 : (ints zs).set k (int q) = ints (zs.set k q) := by simp [ints, List.map_set]
    rw [e1] at s1
    have hadd : (⟨b, 0, none⟩ : Addr).add (k * 1) = ⟨b, k, none⟩ := by rw [Addr.add_lit]; simp
    have hrun := run_storeAt (P := P) (t := t) (u := int q) hT hc hf rfl
    simp only [pt, hadd] at h2
    unfold Oper.wp
    simp only [execOp, h2, hy N a hs, Sem.run_bind, hrun, Result.andThen_ok, Sem.run_pure, Oper.upon]
    have hub : obk (us.getD j undef) = some b := by rw [hu]; exact own_obk hc0
    refine h _ _ hs (hw.turn_at i ho s2.os s2.tape s2.output s2.size (fun p hp hne => s2.block p hp (fun e => hne (.inr ⟨j, hjl, by simp, by rw [hub]; exact e.symm⟩))) ?_ (fun p hp => .inl hp))
    refine ⟨?_, by simpa using ht.2.1, fun p hp hne => ?_, ht.2.2.2⟩
    · have := Own.keep ht.1 (w' := w.setCell ⟨b, k, none⟩ (int q)) fun p hp => s2.block p ((ht.lt p (.inl hp)).2) (fun e => (hD j hjl b hub).1 (by rw [hp]; exact e))
      simpa using this
    · by_cases hpj : p = j
      · subst hpj
        have e2 : (xss.set p (zs.set k q)).getD p [] = zs.set k q := by simp [hj]
        rw [e2, hu]
        have := Own.of s1
        unfold RowOk
        simpa using this
      · have e2 : (xss.set j (zs.set k q)).getD p [] = xss.getD p [] := by simp [Ne.symm hpj]
        rw [e2]
        exact Own.keep (ht.2.2.1 p hp hne) fun r hr => s2.block r ((ht.lt r (.inr ⟨p, hp, by simp, hr⟩)).2) (fun e => (hD p hp r hr).2 j hjl (Ne.symm hpj) (by rw [hub]; exact e.symm))

/-! numbers -/
theorem y_min {p q : Int} (hx : Ev l x (int p)) (hy : Ev l y (int q)) : Ys P C N l ⟨dd, .call { callee := .builtin .min, args := #[x, y], argTypes := ats }, ty, ps, af, g⟩ (int (min p q)) := yl_of fun a w hs _ => by
  have e1 : (if q < p then q else p) = min p q := by rw [Int.min_def]; split <;> split <;> omega
  simp only [execOp, resolve, invoke, builtin, List.map_toArray, List.map_cons, List.map_nil, hx N a hs, hy N a hs]
  simp [run_min_int2, e1]
theorem y_max {p q : Int} (hx : Ev l x (int p)) (hy : Ev l y (int q)) : Ys P C N l ⟨dd, .call { callee := .builtin .max, args := #[x, y], argTypes := ats }, ty, ps, af, g⟩ (int (max p q)) := yl_of fun a w hs _ => by
  have e1 : (if p < q then q else p) = max p q := by rw [Int.max_def]; split <;> split <;> omega
  simp only [execOp, resolve, invoke, builtin, List.map_toArray, List.map_cons, List.map_nil, hx N a hs, hy N a hs]
  simp [run_max_int2, e1]
theorem y_quo {p q : Int} (hx : Ev l x (int p)) (hy : Ev l y (int q)) (h1 : 0 ≤ p ∧ p ≤ 9223372036854775807) (h2 : 1 ≤ q) : Ys P C N l ⟨dd, .binOp .quo t x y t', ty, ps, af, g⟩ (int (p / q)) := yl_of fun a w hs _ => by
  have e0 : ¬ q = 0 := by omega
  have e1 : p.tdiv q = p / q := Int.tdiv_eq_ediv_of_nonneg h1.1
  have e3 : In64 (p / q) := by
    have := Int.ediv_nonneg h1.1 (show 0 ≤ q by omega)
    have := Int.ediv_le_self q h1.1
    unfold In64; omega
  simp only [execOp, hx N a hs, hy N a hs]; simp [go_sem, Op.intDiv, e0, e1, wrap_in e3]
theorem y_rem {p q : Int} (hx : Ev l x (int p)) (hy : Ev l y (int q)) (h1 : 0 ≤ p ∧ p ≤ 9223372036854775807) (h2 : 1 ≤ q) : Ys P C N l ⟨dd, .binOp .rem t x y t', ty, ps, af, g⟩ (int (p % q)) := yl_of fun a w hs _ => by
  have e0 : ¬ q = 0 := by omega
  have e1 : p.tmod q = p % q := Int.tmod_eq_emod_of_nonneg h1.1
  simp only [execOp, hx N a hs, hy N a hs]; simp [go_sem, Op.intDiv, e0, e1]
theorem ln_one {v : Value} (h : Ln v n) : v.oneCell' = true := by obtain ⟨A, c, rfl, _⟩ := h; rfl
theorem ocs_nil : ∀ u ∈ ([] : List Value), u.oneCell' = true := by simp
theorem ocs_cons {u : Value} {us : List Value} (h : u.oneCell' = true) (hs : ∀ u ∈ us, u.oneCell' = true) : ∀ x ∈ u :: us, x.oneCell' = true := by
  intro x hx
  rcases List.mem_cons.1 hx with rfl | hx
  · exact h
  · exact hs x hx
theorem TL.storeB (i : Nat) {b j : Nat} {cs : List Value} {u : Value} (hx : Ev l x (.pointer (some ⟨b, j, none⟩))) (hy : Ev l y u) (hT : One P t) (ho : os[i]? = some (.blk b e cs)) (hj : j < cs.length) (h1 : ∀ w, Hp w0 os w → u.oneCell' = true)
    (h : TL P ops Q N (Hp w0 (os.set i (.blk b e (cs.set j u)))) rest l) : TL P ops Q N (Hp w0 os) (⟨none, .store t x y, ty, ps, af, none⟩ :: rest) l := TL.raw rfl fun a w hs hw => by
  have hr := hw.get i ho
  have h2 := hx N a hs
  have hc : w.cell? ⟨b, j, none⟩ = some cs[j] := by rw [cell_of_row w b j cs.toArray e (0, 0) hr.2]; simp [hj]
  have hf : w.frozen? ⟨b, j, none⟩ = false := frozen_of_row w b j cs.toArray e hr.2
  have hrun := run_storeAt (P := P) (t := t) (u := u) hT hc hf (h1 w hw)
  have hs2 := heap_setCell_same w b j cs.toArray e u hr.2
  unfold Oper.wp
  simp only [execOp, h2, hy N a hs, Sem.run_bind, hrun, Result.andThen_ok, Sem.run_pure, Oper.upon]
  refine h _ _ hs (hw.turn_at i ho rfl rfl rfl (by simp) (fun q _ hne => heap_setCell_other w ⟨b, j, none⟩ q u (fun e => hne (by rw [e]; rfl))) ⟨hr.1, by simpa using hs2⟩ (fun q hq => .inl hq))
/-- A variable of type t is a struct or an array of n cells. -/
def AggT (P : Program) (t : TypeId) (n : Nat) : Prop := ((∃ fs, P.underlying t = some (.struct fs)) ∨ (∃ m e, P.underlying t = some (.array m e))) ∧ (P.info? t).map (·.size) = some n
theorem AggT.load {w : World} {b : Nat} {cs : List Value} (hT : AggT P t cs.length) (hg : w.heap[b]? = some (.cells cs.toArray e (0, 0))) : (loadVar t ⟨b, 0, none⟩).run P w = .ok (.agg cs.toArray) w := by
  obtain ⟨⟨fs, h⟩ | ⟨m, e1, h⟩, hs⟩ := hT
  · exact run_loadVar_row (P := P) w b e t cs.toArray (0, 0) _ hg h rfl (by simpa using hs)
  · exact run_loadVar_row (P := P) w b e t cs.toArray (0, 0) _ hg h rfl (by simpa using hs)
theorem y_ldagg (i : Nat) {b : Nat} {cs : List Value} (hx : Ev l x (.pointer (some ⟨b, 0, none⟩))) (hT : AggT P t cs.length) (ho : os[i]? = some (.blk b e cs)) : Ys P (Hp w0 os) N l ⟨dd, .load t x, ty, ps, af, g⟩ (.agg cs.toArray) := yl_of fun a w hs hw => by
  have hr := hT.load (hw.get i ho).2
  simp [execOp, hx N a hs, Instr.loadAt, Instr.sureAddr, hr]
theorem TL.storeAgg (i : Nat) {b : Nat} {cs us : List Value} (hx : Ev l x (.pointer (some ⟨b, 0, none⟩))) (hy : Ev l y (.agg us.toArray)) (hT : AggT P t us.length) (ho : os[i]? = some (.blk b e cs)) (hl : cs.length = us.length) (h1 : ∀ w, Hp w0 os w → ∀ u ∈ us, u.oneCell' = true)
    (h : TL P ops Q N (Hp w0 (os.set i (.blk b e us))) rest l) : TL P ops Q N (Hp w0 os) (⟨none, .store t x y, ty, ps, af, none⟩ :: rest) l := TL.raw rfl fun a w hs hw => by
  have h3 := hT.2
  have hg := hw.get i ho
  have hr := run_storeVar_row (P := P) w b e t cs.toArray us.toArray hg.2 (by simpa using h3) (by simpa using hl) (by rw [Array.all_eq_true_iff_forall_mem]; intro u hu; exact h1 w hw u (by simpa using hu))
  unfold Oper.wp
  simp only [execOp, hx N a hs, hy N a hs, Instr.storeAt, Instr.sureAddr, Sem.run_bind, Sem.run_pure, hr, Result.andThen_ok, Oper.upon]
  refine h _ _ hs (hw.turn_at i ho rfl rfl rfl (by simp) (fun q _ hne => setRow_other w b q _ (fun e => hne e.symm)) ⟨hg.1, setRow_heap w b cs.toArray _ e _ hg.2⟩ (fun q hq => .inl hq))
theorem y_bld0 {q : Value} (h : ∀ w, (Instr.build t #[]).run P w = .ok q w) : Ys P C N l ⟨dd, .build t #[], ty, ps, af, g⟩ q := yl_of fun a w hs _ => by simp [execOp, h w]
theorem y_bld1 (hx : Ev l x v) (h : ∀ A n c w, (Instr.build t #[(0, .slice A n c)]).run P w = .ok (.agg #[.slice A n c]) w) (hl : ∀ w, C w → Ln v n) : Ys P C N l ⟨dd, .build t #[(0, x)], ty, ps, af, g⟩ (.agg #[v]) := yl_of fun a w hs hw => by
  obtain ⟨A, c, rfl, _⟩ := hl w hw
  simp [execOp, hx N a hs, h A n c w]
theorem TN.retC {fn : Func} {R : Ending → World → Prop} {e0 : Exit} (i : Nat) {s b : Nat} {cs : List Value} (he : e0 = .ret ∨ e0 = .normal) (hr : fn.results = #[.cell s t]) (hx : Ev l (.tmp s) (.pointer (some ⟨b, 0, none⟩))) (hT : AggT P t cs.length) (ho : os[i]? = some (.blk b e cs))
    (h : ∀ w, Hp w0 os w → R (.returned (.agg cs.toArray)) w) : TN (bodyPost P fn R) e0 N (Hp w0 os) l := fun a w hs hw => by
  have hl := hT.load (hw.get i ho).2
  have h4 := hx N a hs
  simp only [Act.eval, Array.getD_eq_getD_getElem?] at h4
  have : (results fn a.tmps).run P w = .ok (.agg cs.toArray) w := by simp [results, hr, h4, asAddr, hl]
  rcases he with rfl | rfl <;> exact ⟨hs.defers, _, this, h w hw⟩
theorem TN.retCT {fn : Func} {R : Ending → World → Prop} {e0 : Exit} (i : Nat) {s u b : Nat} {v' : Value} {cs : List Value} (he : e0 = .ret ∨ e0 = .normal) (hr : fn.results = #[.cell s t, .tmp u]) (hx : Ev l (.tmp s) (.pointer (some ⟨b, 0, none⟩))) (hy : Ev l (.tmp u) v') (hT : AggT P t cs.length) (ho : os[i]? = some (.blk b e cs))
    (h : ∀ w, Hp w0 os w → R (.returned (.tuple #[.agg cs.toArray, v'])) w) : TN (bodyPost P fn R) e0 N (Hp w0 os) l := fun a w hs hw => by
  have hl := hT.load (hw.get i ho).2
  have h4 := hx N a hs
  have h5 := hy N a hs
  simp only [Act.eval, Array.getD_eq_getD_getElem?] at h4 h5
  have : (results fn a.tmps).run P w = .ok (.tuple #[.agg cs.toArray, v']) w := by simp [results, hr, h4, h5, asAddr, hl]
  rcases he with rfl | rfl <;> exact ⟨hs.defers, _, this, h w hw⟩
theorem Hp.emptyTab {w : World} {v : Value} (e' : TypeId) (h : Hp w0 (.row v e sz 0 [] :: os) w) (hs : sz = 1 := by rfl) : Hp w0 (.tab v e e' [] [] none :: os) w := by
  subst hs
  exact ⟨h.1, fun c hc => by
    rcases List.mem_cons.1 hc with rfl | hc
    · exact ⟨h.2.1 _ (List.mem_cons_self ..), rfl, fun i hi => absurd hi (by simp), fun i hi => absurd hi (by simp)⟩
    · exact h.2.1 c (List.mem_cons_of_mem _ hc), by
    have hp := List.pairwise_cons.1 h.2.2
    exact List.pairwise_cons.2 ⟨fun d hd k hk => hp.1 d hd k (by
      rcases hk with hk | ⟨i, hi, _⟩
      · exact hk
      · simp at hi), hp.2⟩⟩
theorem Hp.zeros {w : World} {v : Value} (h : Hp w0 (.row v e 1 n (List.replicate n (.int .i64 0)) :: os) w) : Hp w0 (rowI e v (List.replicate n (0 : Int)) :: os) w := by
  simpa [rowI, ints, List.map_replicate] using h
/-- Some chunks, in another order. -/
theorem Hp.picks {w : World} {os' : List Ck} (is : List Nat) (hn : is.Nodup) (hp : is.map (fun i : Nat => os[i]?) = os'.map some) (h : Hp w0 os w) : Hp w0 os' w := by
  have get : ∀ (k : Nat) (c : Ck), os'[k]? = some c → ∃ i : Nat, is[k]? = some i ∧ os[i]? = some c := fun k c hk => by
    have h1 : (is.map (fun i : Nat => os[i]?))[k]? = some (some c) := by rw [hp]; simp [hk]
    rw [List.getElem?_map] at h1
    cases hi : is[k]? with
    | none => rw [hi] at h1; simp at h1
    | some i => rw [hi] at h1; exact ⟨i, rfl, by simpa using h1⟩
  refine ⟨h.1, fun c hc => ?_, pw_of fun i j c d hlt hi hj => ?_⟩
  · obtain ⟨k, hk⟩ := List.mem_iff_getElem?.1 hc
    obtain ⟨i, _, hi⟩ := get k c hk
    exact h.get i hi
  · obtain ⟨p, hp1, hp2⟩ := get i c hi
    obtain ⟨q, hq1, hq2⟩ := get j d hj
    refine h.apart (fun e => ?_) hp2 hq2
    subst e
    have h1 := (List.getElem?_eq_some_iff.1 hp1)
    have h2 := (List.getElem?_eq_some_iff.1 hq1)
    have := (List.pairwise_iff_getElem.1 hn) i j h1.1 h2.1 hlt
    exact this (h1.2.trans h2.2.symm)
/-- A row that lies alone in a slice of rows is a table. -/
theorem Hp.uniTab {w : World} (i j : Nat) (hij : Nat.beq i j = false) {r : Value} {qs : List Int} (h : Hp w0 os w) (hi : os[i]? = some (.row v e 1 1 [r])) (hj : os[j]? = some (rowI e' r qs)) : Hp w0 ((os.set i (tabI e e' v [r] [qs])).set j nilCk) w := by
  have hne : i ≠ j := by intro e; subst e; simp at hij
  have h1 := h.get i hi
  have h2 := h.get j hj
  have hap := h.apart hne hi hj
  refine h.turn2 hne hi hj rfl rfl rfl (Nat.le_refl _) (fun _ _ _ _ => rfl) ⟨h1, rfl, ?_, ?_⟩ ?_
  · intro p hp _
    obtain rfl : p = 0 := by simp at hp; omega
    exact h2
  · intro p hp k hk
    obtain rfl : p = 0 := by simp at hp; omega
    refine ⟨fun hk' => hap k hk' hk, fun q hq hqp => ?_⟩
    simp at hq; omega
  · rintro k (hk | ⟨p, hp, _, hk⟩)
    · exact .inl hk
    · obtain rfl : p = 0 := by simp at hp; omega
      exact .inr (.inl hk)

/-- One row of a table, alone. -/
theorem Hp.focus {w : World} (i j : Nat) {us : List Value} {xss : List (List Int)} (h : Hp w0 os w) (hi : os[i]? = some (tabI e e' v us xss)) (hj : j < xss.length) :
    Hp w0 (rowI e' (us.getD j undef) (xss.getD j []) :: os.set i (.tab v e e' us xss (some j))) w := by
  have h1 := h.get i hi
  have hjl : j < us.length := by rw [h1.2.1]; exact hj
  have hlt := (List.getElem?_eq_some_iff.1 hi).1
  have hself : (os.set i (.tab v e e' us xss (some j)))[i]? = some (.tab v e e' us xss (some j)) := by simp [hlt]
  have hX : Hp w0 (os.set i (.tab v e e' us xss (some j))) w := h.turn_at i hi rfl rfl rfl (Nat.le_refl _) (fun _ _ _ => rfl)
    ⟨h1.1, h1.2.1, fun p hp _ => h1.2.2.1 p hp (by simp), h1.2.2.2⟩ (fun k hk => by
      rcases hk with hk | ⟨p, hp, _, hk⟩
      · exact .inl (.inl hk)
      · exact .inl (.inr ⟨p, hp, by simp, hk⟩))
  refine ⟨h.1, fun c hc => ?_, List.pairwise_cons.2 ⟨fun d hd k hk hk' => ?_, hX.2.2⟩⟩
  · rcases List.mem_cons.1 hc with rfl | hc
    · exact h1.2.2.1 j hjl (by simp)
    · exact hX.2.1 c hc
  · have hk : obk (us.getD j undef) = some k := hk
    obtain ⟨q, hq⟩ := List.mem_iff_getElem?.1 hd
    rcases get_set1 hq with ⟨_, rfl⟩ | ⟨e2, hq⟩
    · rcases hk' with hk' | ⟨p, hp, hne, hk'⟩
      · exact (h1.2.2.2 j hjl k hk).1 hk'
      · exact (h1.2.2.2 j hjl k hk).2 p hp (fun e => hne (by rw [e])) hk'
    · exact h.apart (fun e => e2 e.symm) hi hq k (.inr ⟨j, hjl, by simp, hk⟩) hk'
theorem Hp.unfocus {w : World} (i j : Nat) {us : List Value} {xss : List (List Int)} {ys : List Int} (hlt : i < os.length) (hj : j < xss.length)
    (h : Hp w0 (rowI e' (us.getD j undef) ys :: os.set i (.tab v e e' us xss (some j))) w) : Hp w0 (os.set i (tabI e e' v us (xss.set j ys))) w := by
  have hi : (rowI e' (us.getD j undef) ys :: os.set i (.tab v e e' us xss (some j)))[i + 1]? = some (.tab v e e' us xss (some j)) := by simp [hlt]
  have h0 : (rowI e' (us.getD j undef) ys :: os.set i (.tab v e e' us xss (some j)))[0]? = some (rowI e' (us.getD j undef) ys) := rfl
  have h1 := h.get (i + 1) hi
  have h2 := h.get 0 h0
  have hjl : j < us.length := by rw [h1.2.1]; exact hj
  have := h.turn2 (c' := tabI e e' v us (xss.set j ys)) (by omega : i + 1 ≠ 0) hi h0 rfl rfl rfl (Nat.le_refl _) (fun _ _ _ _ => rfl) ⟨by simpa using h1.1, by simpa using h1.2.1, fun p hp _ => by
      by_cases hpj : p = j
      · subst hpj
        have e2 : (xss.set p ys).getD p [] = ys := by simp [hj]
        rw [e2]; exact h2
      · have e2 : (xss.set j ys).getD p [] = xss.getD p [] := by simp [Ne.symm hpj]
        rw [e2]; exact h1.2.2.1 p hp (fun e => hpj (Option.some.inj e)), h1.2.2.2⟩ (fun k hk => by
      rcases hk with hk | ⟨p, hp, _, hk⟩
      · exact .inl (.inl hk)
      · by_cases hpj : p = j
        · subst hpj; exact .inr (.inl hk)
        · exact .inl (.inr ⟨p, hp, fun e => hpj (Option.some.inj e), hk⟩))
  simp only [List.set_cons_succ, List.set_set, List.set_cons_zero] at this
  exact this.sublist (.cons _ (.refl _))
theorem TL.callmT (i j : Nat) {us : List Value} {xss : List (List Int)} (ret : Value) (qs : List Int) (he : En P k) (hv : Evs l ars vs) (hb : Nat.blt d N = true) (ho : os[i]? = some (tabI e e' v us xss)) (hj : j < xss.length)
    (hc : ∀ w fr, Hp w0 (rowI e' (us.getD j undef) (xss.getD j []) :: fr) w → Calls P k vs.toArray w (fun e w' => ∃ _j : Unit, e = .returned ret ∧ Hp w0 (rowI e' (us.getD j undef) qs :: fr) w'))
    (h : TL P ops Q N (Hp w0 (os.set i (tabI e e' v us (xss.set j qs)))) rest ((d, ret) :: l)) :
    TL P ops Q N (Hp w0 os) (⟨some d, .call { callee := .value (.func k), args := ars.toArray, argTypes := ats }, ty, ps, af, none⟩ :: rest) l :=
  TL.call (D := fun v1 w' => v1 = ret ∧ Hp w0 (os.set i (tabI e e' v us (xss.set j qs))) w') he hv hb (fun w hw => (hc w _ (hw.focus i j ho hj)).mono fun _ _ ⟨_, h1, h2⟩ => ⟨_, h1, rfl, h2.unfocus i j (List.getElem?_eq_some_iff.1 ho).1 hj⟩)
    (fun v a w hs ⟨h1, h2⟩ => by subst h1; exact h a w hs h2)
theorem TL.callm0 {ι : Type} (i : Nat) {c : Ck} (c' : ι → Ck) (he : En P k) (hv : Evs l ars vs) (ho : os[i]? = some c)
    (hc : ∀ w fr, Hp w0 (c :: fr) w → Calls P k vs.toArray w (fun e w' => ∃ j, e = .returned (.tuple #[]) ∧ Hp w0 (c' j :: fr) w')) (h : ∀ j, TL P ops Q N (Hp w0 (os.set i (c' j))) rest l) :
    TL P ops Q N (Hp w0 os) (⟨none, .call { callee := .value (.func k), args := ars.toArray, argTypes := ats }, ty, ps, af, none⟩ :: rest) l := by
  obtain ⟨hlt, hget⟩ := List.getElem?_eq_some_iff.1 ho
  have p1 : (c :: os.eraseIdx i).Perm os := by
    rw [← hget]
    have h := List.perm_middle (a := os[i]) (l₁ := os.take i) (l₂ := os.drop (i + 1))
    have e1 : os.take i ++ os[i] :: os.drop (i + 1) = os := by rw [← List.drop_eq_getElem_cons hlt, List.take_append_drop]
    rw [e1] at h
    rw [List.eraseIdx_eq_take_drop_succ]
    exact h.symm
  have p2 : ∀ c', (os.set i c').Perm (c' :: os.eraseIdx i) := fun c' => by
    rw [List.set_eq_take_append_cons_drop, if_pos hlt, List.eraseIdx_eq_take_drop_succ]
    exact List.perm_middle
  exact TL.call0 (D := fun w' => ∃ j, Hp w0 (os.set i (c' j)) w') he hv (fun w hw => (hc w (os.eraseIdx i) (hw.perm p1)).mono fun _ _ ⟨j, h1, h2⟩ => ⟨_, h1, j, h2.perm (p2 _)⟩)
    (fun a w hs ⟨i, h2⟩ => h i a w hs h2)
def Ck.len : Ck → Nat
  | .row _ _ _ n _ => n
  | .blk _ _ _ => 0
  | .tab _ _ _ _ xss _ => xss.length
  | .objs _ _ => 0
theorem Ck.ok.maxn {B : Nat} {w : World} {c : Ck} (h : c.ok B w) : c.len ≤ 9223372036854775807 := by
  cases c with
  | row v e sz n xs => exact (rd_own h).2.1
  | blk g e cs => exact Nat.zero_le _
  | tab v e e' us xss hole => exact (rd_own h.1).2.1
  | objs gs R => exact Nat.zero_le _
theorem TN.ret0 {fn : Func} {R : Ending → World → Prop} {e : Exit} (he : e = .ret ∨ e = .normal) (hr : fn.results = #[]) (h : ∀ w, C w → R (.returned (.tuple #[])) w) : TN (bodyPost P fn R) e N C l := fun a w hs hc => by
  rcases he with rfl | rfl <;> exact ⟨hs.defers, .tuple #[], by rw [results_none hr], h w hc⟩
theorem flat_ints (qs : List Int) : (ints qs).flatMap (·.cells.toList) = ints qs := by
  induction qs with
  | nil => rfl
  | cons q qs ih => simp only [ints, List.map_cons, List.flatMap_cons] at *; rw [ih]; rfl
theorem flat_strs (qs : List ByteArray) : (strs qs).flatMap (·.cells.toList) = strs qs := by
  induction qs with
  | nil => rfl
  | cons q qs ih => simp only [strs, List.map_cons, List.flatMap_cons] at *; rw [ih]; rfl
theorem TL.buildI {parts : List (Nat × Operand)} {zs : List Operand} {qs : List Int} (hT : SlT P t e z 1 bytes) (hz : parts = List.zip (List.range' 0 (ints qs).length) zs) (hv : Evs l zs (ints qs)) (hn : n = qs.length) (hsm : n ≤ 16777216) (hb : Nat.blt d N = true)
    (h : ∀ v', TL P ops Q N (Hp w0 (rowI e v' qs :: os)) rest ((d, v') :: l)) :
    TL P ops Q N (Hp w0 os) (⟨some d, .buildSlice t n parts.toArray, ty, ps, af, none⟩ :: rest) l :=
  TL.buildSlice hT hz hv (by intro u hu; obtain ⟨q, _, rfl⟩ := List.mem_map.1 hu; rfl) (by simp [hn, ints]) (by omega) hb (fun v' => by
    rw [flat_ints, hn]; exact h v')
theorem TL.buildS {parts : List (Nat × Operand)} {zs : List Operand} {qs : List ByteArray} (hT : SlT P t e z 1 bytes) (hz : parts = List.zip (List.range' 0 (strs qs).length) zs) (hv : Evs l zs (strs qs)) (hn : n = qs.length) (hsm : n ≤ 16777216) (hb : Nat.blt d N = true)
    (h : ∀ v', TL P ops Q N (Hp w0 (rowS e v' qs :: os)) rest ((d, v') :: l)) :
    TL P ops Q N (Hp w0 os) (⟨some d, .buildSlice t n parts.toArray, ty, ps, af, none⟩ :: rest) l :=
  TL.buildSlice hT hz hv (by intro u hu; obtain ⟨q, _, rfl⟩ := List.mem_map.1 hu; rfl) (by simp [hn, strs]) (by omega) hb (fun v' => by
    rw [flat_strs, hn]; exact h v')
/-- A slice of one slice. -/
theorem TL.buildU {u : Value} (hT : SlT P t e z 1 bytes) (hx : Ev l x u) (hu : ∀ w, Hp w0 os w → Ln u m) (hb : Nat.blt d N = true)
    (h : ∀ v', TL P ops Q N (Hp w0 (.row v' e 1 1 [u] :: os)) rest ((d, v') :: l)) :
    TL P ops Q N (Hp w0 os) (⟨some d, .buildSlice t 1 #[(0, x)], ty, ps, af, none⟩ :: rest) l := fun a w hs hw => by
  obtain ⟨A, c, rfl, _⟩ := hu w hw
  exact TL.buildSlice (parts := [(0, x)]) (zs := [x]) (vs := [.slice A m c]) hT rfl ⟨hx, trivial⟩ (by intro q hq; simp only [List.mem_singleton] at hq; subst hq; rfl) rfl (by simp) hb (fun v' => h v') a w hs hw
/-- A variable of its own, one cell. -/
def CellAt (w : World) (b : Nat) (u : Value) : Prop := w.cell? ⟨b, 0, none⟩ = some u ∧ b < w.heap.size
theorem CellAt.below {w w' : World} {b : Nat} {u : Value} (h : CellAt w b u) (hb : Below w.heap.size w w') : CellAt w' b u :=
  ⟨(hb.cell (p := ⟨b, 0, none⟩) h.2).trans h.1, Nat.lt_of_lt_of_le h.2 hb.size⟩
theorem cell_blk {w w2 : World} {b : Nat} {cs : List Value} {u : Value} (i : Nat) (ho : os[i]? = some (.blk b e cs)) (hu : cs[0]? = some u) (hw : Hp w0 os w) (hb : Below w.heap.size w w2) : CellAt w2 b u := by
  have h := hw.get i ho
  have hlt := (h.lt b rfl).2
  refine CellAt.below ⟨?_, hlt⟩ hb
  rw [cell_of_row w b 0 cs.toArray e (0, 0) h.2]
  simpa using hu
theorem y_ldc {b : Nat} {u : Value} (hx : Ev l x (.pointer (some ⟨b, 0, none⟩))) (hT : One P t) (hc : CellAt w0 b u) : Ys P (Hp w0 os) N l ⟨dd, .load t x, ty, ps, af, g⟩ u := yl_of fun a w hs hw => by
  have h1 := (hc.below hw.1).1
  have h2 := hx N a hs
  simp [execOp, h2, Instr.loadAt, Instr.sureAddr, loadVar, hT.1 w, h1]
theorem y_conv_i64 {k : IntKind} {p : Int} {d1 : TypeDesc} (hx : Ev l x (.int k p)) (hs1 : P.underlying t = some d1) (hd : P.underlying t' = some (.int .i64)) (h : 0 ≤ p ∧ p ≤ 9223372036854775807) :
    Ys P C N l ⟨dd, .convert t t' x, ty, ps, af, g⟩ (.int .i64 p) := yl_of fun a w hs _ => by
  have h3 : In64 p := by unfold In64; omega
  have hk : P.intKind t' = .i64 := by simp [Program.intKind, hd]
  have h4 := run_convert_int (P := P) w t t' k p (by rw [hs1]; rfl) (by rw [hk]; exact hd)
  rw [hk, wrap_in h3] at h4
  simp only [execOp, hx N a hs, Sem.run_bind, h4, Result.andThen_ok, Sem.run_pure]
theorem y_conv_u64 {k : IntKind} {p : Int} {d1 : TypeDesc} (hx : Ev l x (.int k p)) (hs1 : P.underlying t = some d1) (hd : P.underlying t' = some (.int .u64)) (h : 0 ≤ p ∧ p ≤ 9223372036854775807) :
    Ys P C N l ⟨dd, .convert t t' x, ty, ps, af, g⟩ (.int .u64 p) := yl_of fun a w hs _ => by
  have hk : P.intKind t' = .u64 := by simp [Program.intKind, hd]
  have h4 := run_convert_int (P := P) w t t' k p (by rw [hs1]; rfl) (by rw [hk]; exact hd)
  have h5 : IntKind.u64.wrap p = p := by rw [IntKind.wrap_u64]; omega
  rw [hk, h5] at h4
  simp only [execOp, hx N a hs, Sem.run_bind, h4, Result.andThen_ok, Sem.run_pure]
theorem y_shr1 {p : Int} (hx : Ev l x (.int .u64 p)) (hy : Ev l y (.int .u64 1)) (_h : 0 ≤ p ∧ p ≤ 9223372036854775807) : Ys P C N l ⟨dd, .binOp .shr t x y t', ty, ps, af, g⟩ (.int .u64 (p / 2)) := yl_of fun a w hs _ => by
  simp only [execOp, hx N a hs, hy N a hs]
  have h5 : p.fdiv 2 = p / 2 := Int.fdiv_eq_ediv_of_nonneg p (by omega)
  simp [go_sem, Op.shift, h5, IntKind.bits]
def isNilV : Value → Bool
  | .slice none _ _ => true
  | _ => false
theorem ri_isnil {w : World} {xs : List Int} (h : RI w v xs) (hn : isNilV v = true) : xs = [] := by
  obtain ⟨_, _, A, c, rfl, h2, h3, _⟩ := h
  cases A with
  | none => have := h3 rfl; exact List.eq_nil_of_length_eq_zero (by omega)
  | some a => cases hn
theorem y_isnil (hx : Ev l x v) (hy : Ev l y (.slice none 0 0)) (ht : P.underlying t = some (.slice e)) (hl : ∀ w, C w → Ln v n) : Ys P C N l ⟨dd, .binOp .eql t x y t', ty, ps, af, g⟩ (.bool (isNilV v)) := yl_of fun a w hs hw => by
  obtain ⟨A, c, rfl, _⟩ := hl w hw
  have hr : (binOp .eql t (.slice A n c) (.slice none 0 0)).run P w = .ok (.bool A.isNone) w := by
    unfold binOp
    simp [run_equal_slice_nil w t e A n c ht]
  simp only [execOp, hx N a hs, hy N a hs]
  simp [go_sem, hr]
  cases A <;> rfl
theorem TL.boxS (hx : Ev l x v) (hl : ∀ w, Hp w0 os w → Ln v n) (hb : Nat.blt d N = true) (h : ∀ b, TL P ops Q N (Hp w0 (.blk b e [v] :: os)) rest ((d, .pointer (some ⟨b, 0, none⟩)) :: l)) :
    TL P ops Q N (Hp w0 os) (⟨some d, .box e x, ty, ps, af, none⟩ :: rest) l := fun a w hs hw => by
  obtain ⟨A, c, rfl, _⟩ := hl w hw
  exact TL.box hx hb h a w hs hw
theorem getD_rep {α : Type} (n j : Nat) (x d : α) (h : j < n) : (List.replicate n x).getD j d = x := by simp [h]
theorem Hp.madeTab {w : World} {v : Value} (e' : TypeId) (h : Hp w0 (.row v e 1 n (List.replicate n (.slice none 0 0)) :: os) w) : Hp w0 (tabI e e' v (List.replicate n (.slice none 0 0)) (List.replicate n []) :: os) w := by
  have h0 := h.get 0 rfl
  have nilb : ∀ p, p < (List.replicate n (Value.slice none 0 0)).length → obk ((List.replicate n (Value.slice none 0 0)).getD p undef) = none := fun p hp => by
    rw [getD_rep n p _ _ (by simpa using hp)]; rfl
  refine ⟨h.1, fun c hc => ?_, ?_⟩
  · rcases List.mem_cons.1 hc with rfl | hc
    · refine ⟨by rw [List.length_replicate]; exact h0, by simp, fun p hp _ => ?_, fun p hp k hk => ?_⟩
      · have hp' : p < n := by simpa using hp
        rw [getD_rep n p _ _ hp', getD_rep n p _ _ hp']
        exact Own.nil _ _ _ _
      · rw [nilb p hp] at hk; cases hk
    · exact h.2.1 c (List.mem_cons_of_mem _ hc)
  · have hp := List.pairwise_cons.1 h.2.2
    refine List.pairwise_cons.2 ⟨fun d hd k hk => hp.1 d hd k ?_, hp.2⟩
    rcases hk with hk | ⟨q, hq, _, hk⟩
    · exact hk
    · rw [nilb q hq] at hk; cases hk
/-- A row of ints is laid at a place of a table. -/
theorem TL.storeU (i j : Nat) {k : Nat} {r : Value} {us : List Value} {xss : List (List Int)} {qs : List Int} (hij : Nat.beq i j = false) (hx : Ev l x (pt v k 1)) (hy : Ev l y r) (hT : One P t) (ho : os[i]? = some (tabI e e' v us xss)) (hj : os[j]? = some (rowI e' r qs)) (hlt : k < xss.length)
    (h : TL P ops Q N (Hp w0 ((os.set i (tabI e e' v (us.set k r) (xss.set k qs))).set j nilCk)) rest l) :
    TL P ops Q N (Hp w0 os) (⟨none, .store t x y, ty, ps, af, none⟩ :: rest) l := TL.raw rfl fun a w hs hw => by
  have hne : i ≠ j := by intro e; subst e; simp at hij
  have ht := hw.get i ho
  have hrj := hw.get j hj
  have hap := hw.apart hne ho hj
  have hlen : us.length = xss.length := ht.2.1
  have h2 : a.eval x = pt v k 1 := hx N a hs
  have h1 : r.oneCell' = true := by
    rcases hrj.2 with ⟨⟨A, rfl⟩, _⟩ | ⟨g, cap, cur, rfl, _⟩ <;> rfl
  rcases ht.1.2 with ⟨_, h0⟩ | ⟨b, cap, cur, rfl, hc0, hb, hg, hnc, hcm, hcs, htk⟩
  · omega
  · have hr : w.ownsRow w0.heap.size e 1 (.slice (some ⟨b, 0, none⟩) xss.length cap) xss.length us := ⟨ht.1.1, .inr ⟨b, cap, cur, rfl, hb, hg, hnc, hcm, hcs, htk⟩⟩
    have hc : w.cell? ⟨b, k, none⟩ = us[k]? := World.ownsRow.cellAt hr k (by omega)
    rw [List.getElem?_eq_getElem (by omega)] at hc
    have hf : w.frozen? ⟨b, k, none⟩ = false := World.ownsRow.frozenAt hr k
    obtain ⟨s1, s2⟩ := World.ownsRow.stored hr k r
    have hadd : (⟨b, 0, none⟩ : Addr).add (k * 1) = ⟨b, k, none⟩ := by rw [Addr.add_lit]; simp
    have hrun := run_storeAt (P := P) (t := t) (u := r) hT hc hf h1
    simp only [pt, hadd] at h2
    have hvb : obk (.slice (some ⟨b, 0, none⟩) xss.length cap) = some b := own_obk hc0
    unfold Oper.wp
    simp only [execOp, h2, hy N a hs, Sem.run_bind, hrun, Result.andThen_ok, Sem.run_pure, Oper.upon]
    have keepR : ∀ q, obk r = some q → (w.setCell ⟨b, k, none⟩ r).heap[q]? = w.heap[q]? := fun q hq => s2.block q (hrj.lt q hq).2 (fun e => hap q (.inl (by rw [hvb]; exact e.symm)) hq)
    have gk : (us.set k r).getD k undef = r := by simp [show k < us.length by omega]
    have gxk : (xss.set k qs).getD k [] = qs := by simp [hlt]
    have gn : ∀ p, p ≠ k → (us.set k r).getD p undef = us.getD p undef := fun p hp => by simp [Ne.symm hp]
    have gxn : ∀ p, p ≠ k → (xss.set k qs).getD p [] = xss.getD p [] := fun p hp => by simp [Ne.symm hp]
    refine h _ _ hs (hw.turn2 hne ho hj s2.os s2.tape s2.output s2.size (fun p hp hn1 _ => s2.block p hp (fun e => hn1 (.inl (by rw [hvb]; exact e.symm)))) ⟨by simpa using Own.of s1, by simpa using hlen, fun p hp _ => ?_, fun p hp q hq => ?_⟩ (fun q hq => ?_))
    · by_cases hpk : p = k
      · subst hpk; rw [gk, gxk]; exact Own.keep hrj keepR
      · rw [gn p hpk, gxn p hpk]
        exact Own.keep (ht.2.2.1 p (by simpa using hp) (by simp)) fun q hq => s2.block q (ht.lt q (.inr ⟨p, by simpa using hp, by simp, hq⟩)).2 (fun e => (ht.2.2.2 p (by simpa using hp) q hq).1 (by rw [hvb]; exact e.symm))
    · by_cases hpk : p = k
      · subst hpk
        rw [gk] at hq
        refine ⟨fun hv => hap q (.inl hv) hq, fun m hm hmp => ?_⟩
        rw [gn m hmp]
        exact fun hm' => hap q (.inr ⟨m, by simpa using hm, by simp, hm'⟩) hq
      · rw [gn p hpk] at hq
        have hp' : p < us.length := by simpa using hp
        refine ⟨(ht.2.2.2 p hp' q hq).1, fun m hm hmp => ?_⟩
        by_cases hmk : m = k
        · subst hmk; rw [gk]; exact fun hm' => hap q (.inr ⟨p, hp', by simp, hq⟩) hm'
        · rw [gn m hmk]; exact (ht.2.2.2 p hp' q hq).2 m (by simpa using hm) hmp
    · rcases hq with hq | ⟨p, hp, _, hq⟩
      · exact .inl (.inl hq)
      · by_cases hpk : p = k
        · subst hpk; rw [gk] at hq; exact .inr (.inl hq)
        · rw [gn p hpk] at hq; exact .inl (.inr ⟨p, by simpa using hp, by simp, hq⟩)
end
/-- A row that is owned, or one that came in and is only read. -/
abbrev optI (e : TypeId) (o : Bool) (v : Value) (zs : List Int) : Ck := bif o then rowI e v zs else nilCk
theorem ri_opt {w0 : World} {os : List Ck} {v : Value} {xs : List Int} (i : Nat) {e : TypeId} {o : Bool} (hi : os[i]? = some (optI e o v xs)) (h : o = false → RI w0 v xs) : ∀ w, Hp w0 os w → RI w v xs := fun w hw => by
  cases o with
  | true => exact rd_own (hw.get i hi)
  | false => exact (h rfl).below hw.1
/-- A row of an owned table, taken out of it. -/
theorem ext_row {w0 w : World} {os : List Ck} (i : Nat) {e e' : TypeId} {v : Value} {us : List Value} {xss : List (List Int)} {j : Nat} (hi : os[i]? = some (tabI e e' v us xss)) (hj : j < xss.length) (hw : Hp w0 os w) : Hp w0 [rowI e' (us.getD j undef) (xss.getD j [])] w := by
  have h := hw.get i hi
  refine ⟨hw.1, ?_, by simp⟩
  intro c hc
  obtain rfl := List.mem_singleton.1 hc
  exact h.2.2.1 j (by rw [h.2.1]; exact hj) (by simp)
end Go.Proofs.Ytcmhgkcifejgcaa
namespace Go.Proofs.Ytcmhgkcifejgcaa
set_option linter.unusedVariables false
set_option linter.unusedSimpArgs false
open Go Go.RowKit

section
variable {P : Program} {ops : Array Oper} {Q : Exit → Act → World → Prop} {N : Nat} {C S : World → Prop} {l : Sl} {fuel : Nat} {listed : Array Bool}
theorem TC.mid {c : Code} (R : Act → World → Prop) (h : TC P c (Only R) N C l) (h2 : ∀ a w, R a w → Q .normal a w) : TC P c Q N C l := fun a w hs hc =>
  Code.wp_mono (fun e a' w' q => by cases e <;> first | exact h2 _ _ q | exact q.elim) (h a w hs hc)
theorem th_one (i : Nat) {o : Oper} (hi : ops[i]? = some o)
    (h : TL P ops (Only fun a w => S w ∧ wpAnyH P .any ops (Only (Q .normal)) S fuel (listed.setIfInBounds i true) a w) N C [o] l) : ∀ a w, Slots N l a → C w → wpOp P ops (Only (Q .normal)) i (fun a' w' => S w' ∧ wpAnyH P .any ops (Only (Q .normal)) S fuel (listed.setIfInBounds i true) a' w') a w := fun a w hs hcw => by
  have h1 := h a w hs hcw
  unfold wpList at h1
  unfold wpOp
  rw [hi]
  dsimp only
  split
  · rename_i hw
    rw [if_pos hw] at h1
    rcases h1 with h1 | ⟨_, h1⟩
    · exact .inl (wp_only h1)
    · obtain ⟨_, _, h1⟩ := h1; exact h1.elim
  · rename_i hw
    rw [if_neg hw] at h1
    exact h1
theorem TH.loud2 (i j : Nat) {oi oj : Oper} (hi : ops[i]? = some oi) (hj : ops[j]? = some oj) (hr : Region.ready .any ops listed = [i, j])
    (h1 : TL P ops (Only fun a w => S w ∧ wpAnyH P .any ops (Only (Q .normal)) S fuel (listed.setIfInBounds i true) a w) N C [oi] l)
    (h2 : TL P ops (Only fun a w => S w ∧ wpAnyH P .any ops (Only (Q .normal)) S fuel (listed.setIfInBounds j true) a w) N C [oj] l) : TH P ops Q N S C (fuel + 1) listed l := fun a w hs hcw _ => by
  refine wpAnyH_all hr (by simp) fun k hk => ?_
  simp only [List.mem_cons, List.not_mem_nil, or_false] at hk
  rcases hk with rfl | rfl
  · exact th_one _ hi h1 a w hs hcw
  · exact th_one _ hj h2 a w hs hcw
theorem TH.loud3 (i j k : Nat) {oi oj ok : Oper} (hi : ops[i]? = some oi) (hj : ops[j]? = some oj) (hk : ops[k]? = some ok) (hr : Region.ready .any ops listed = [i, j, k])
    (h1 : TL P ops (Only fun a w => S w ∧ wpAnyH P .any ops (Only (Q .normal)) S fuel (listed.setIfInBounds i true) a w) N C [oi] l)
    (h2 : TL P ops (Only fun a w => S w ∧ wpAnyH P .any ops (Only (Q .normal)) S fuel (listed.setIfInBounds j true) a w) N C [oj] l)
    (h3 : TL P ops (Only fun a w => S w ∧ wpAnyH P .any ops (Only (Q .normal)) S fuel (listed.setIfInBounds k true) a w) N C [ok] l) : TH P ops Q N S C (fuel + 1) listed l := fun a w hs hcw _ => by
  refine wpAnyH_all hr (by simp) fun q hq => ?_
  simp only [List.mem_cons, List.not_mem_nil, or_false] at hq
  rcases hq with rfl | rfl | rfl
  · exact th_one _ hi h1 a w hs hcw
  · exact th_one _ hj h2 a w hs hcw
  · exact th_one _ hk h3 a w hs hcw
end
end Go.Proofs.Ytcmhgkcifejgcaa
namespace Go.Proofs.Ytcmhgkcifejgcaa
set_option linter.unusedVariables false
set_option linter.unusedSimpArgs false
open Go Go.RowKit
set_option linter.unusedVariables false

def F_spec_l1In (x : Int) (a : Int) (b : Int) : Bool := ((decide (a ≤ x)) && (decide (x ≤ b)))

def F_impl_within (n : Int) (lo : Int) (hi : Int) : Bool := ((decide (lo ≤ n)) && (decide (n ≤ hi)))

def F_laws_eqIntS_L1 (a : List Int) (b : List Int) : Nat → Nat → Ctl (Nat) (Bool)
  | 0, s => .next s
  | mf1 + 1, i1 => (bif decide ((i1 : Int) < (a.length : Int)) then (bif !decide ((a.getD i1 0) = (b.getD i1 0)) then (.ret false) else F_laws_eqIntS_L1 a b mf1 (i1 + 1)) else (.next i1))
theorem F_laws_eqIntS_L1_s (a : List Int) (b : List Int) (i1 : Nat) (mf1 : Nat) : F_laws_eqIntS_L1 a b (mf1 + 1) i1 = (bif decide ((i1 : Int) < (a.length : Int)) then (bif !decide ((a.getD i1 0) = (b.getD i1 0)) then (.ret false) else F_laws_eqIntS_L1 a b mf1 (i1 + 1)) else (.next i1)) := rfl
def F_laws_eqIntS (a : List Int) (b : List Int) : Bool := (bif !decide ((a.length : Int) = (b.length : Int)) then false else ((F_laws_eqIntS_L1 a b ((a.length - 0) + 1) 0).elim (fun _ => true) (fun r => r)))

def F_laws_toIntS_L1 (a : List Int) : Nat → Nat × List Int → Ctl (Nat × List Int) (List Int)
  | 0, s => .next s
  | mf1 + 1, (i1, out1) => (bif decide ((i1 : Int) < (a.length : Int)) then F_laws_toIntS_L1 a mf1 ((i1 + 1), (out1.set i1 (a.getD i1 0))) else (.next (i1, out1)))
theorem F_laws_toIntS_L1_s (a : List Int) (i1 : Nat) (out1 : List Int) (mf1 : Nat) : F_laws_toIntS_L1 a (mf1 + 1) (i1, out1) = (bif decide ((i1 : Int) < (a.length : Int)) then F_laws_toIntS_L1 a mf1 ((i1 + 1), (out1.set i1 (a.getD i1 0))) else (.next (i1, out1))) := rfl
def F_laws_toIntS (a : List Int) : List Int := ((F_laws_toIntS_L1 a ((a.length - 0) + 1) (0, (List.replicate a.length (0 : Int)))).elim (fun (_, out1) => out1) (fun r => r))

def F_spec_l1Has_L1 (l : List Int) (n : Int) : Nat → Nat → Ctl (Nat) (Bool)
  | 0, s => .next s
  | mf1 + 1, i1 => (bif decide ((i1 : Int) < (l.length : Int)) then (bif decide ((l.getD i1 0) = n) then (.ret true) else F_spec_l1Has_L1 l n mf1 (i1 + 1)) else (.next i1))
theorem F_spec_l1Has_L1_s (l : List Int) (n : Int) (i1 : Nat) (mf1 : Nat) : F_spec_l1Has_L1 l n (mf1 + 1) i1 = (bif decide ((i1 : Int) < (l.length : Int)) then (bif decide ((l.getD i1 0) = n) then (.ret true) else F_spec_l1Has_L1 l n mf1 (i1 + 1)) else (.next i1)) := rfl
def F_spec_l1Has (l : List Int) (n : Int) : Bool := ((F_spec_l1Has_L1 l n ((l.length - 0) + 1) 0).elim (fun _ => false) (fun r => r))

def F_laws_eqIntSS_L1 (a : List (List Int)) (b : List (List Int)) : Nat → Nat → Ctl (Nat) (Bool)
  | 0, s => .next s
  | mf1 + 1, i1 => (bif decide ((i1 : Int) < (a.length : Int)) then (bif !(F_laws_eqIntS (a.getD i1 []) (b.getD i1 [])) then (.ret false) else F_laws_eqIntSS_L1 a b mf1 (i1 + 1)) else (.next i1))
theorem F_laws_eqIntSS_L1_s (a : List (List Int)) (b : List (List Int)) (i1 : Nat) (mf1 : Nat) : F_laws_eqIntSS_L1 a b (mf1 + 1) i1 = (bif decide ((i1 : Int) < (a.length : Int)) then (bif !(F_laws_eqIntS (a.getD i1 []) (b.getD i1 [])) then (.ret false) else F_laws_eqIntSS_L1 a b mf1 (i1 + 1)) else (.next i1)) := rfl
def F_laws_eqIntSS (a : List (List Int)) (b : List (List Int)) : Bool := (bif !decide ((a.length : Int) = (b.length : Int)) then false else ((F_laws_eqIntSS_L1 a b ((a.length - 0) + 1) 0).elim (fun _ => true) (fun r => r)))

def F_laws_markIntS_L1  : Nat → Int × Nat × List Int → Ctl (Int × Nat × List Int) (Int × List Int)
  | 0, s => .next s
  | mf1 + 1, (k1, i1, a1) => (bif decide ((i1 : Int) < (a1.length : Int)) then F_laws_markIntS_L1 mf1 ((k1 + 1), (i1 + 1), (a1.set i1 k1)) else (.next (k1, i1, a1)))
theorem F_laws_markIntS_L1_s (k1 : Int) (i1 : Nat) (a1 : List Int) (mf1 : Nat) : F_laws_markIntS_L1  (mf1 + 1) (k1, i1, a1) = (bif decide ((i1 : Int) < (a1.length : Int)) then F_laws_markIntS_L1 mf1 ((k1 + 1), (i1 + 1), (a1.set i1 k1)) else (.next (k1, i1, a1))) := rfl
def F_laws_markIntS (a : List Int) (k : Int) : Int × List Int := ((F_laws_markIntS_L1  ((a.length - 0) + 1) (k, 0, a)).elim (fun (k1, _, a1) => (k1, a1)) (fun r => r))

def F_laws_heldIntS_L1 (a : List Int) : Nat → Int × Nat → Ctl (Int × Nat) (Int)
  | 0, s => .next s
  | mf1 + 1, (k1, i1) => (bif decide ((i1 : Int) < (a.length : Int)) then (bif !decide ((a.getD i1 0) = k1) then (.ret (-1)) else F_laws_heldIntS_L1 a mf1 ((k1 + 1), (i1 + 1))) else (.next (k1, i1)))
theorem F_laws_heldIntS_L1_s (a : List Int) (k1 : Int) (i1 : Nat) (mf1 : Nat) : F_laws_heldIntS_L1 a (mf1 + 1) (k1, i1) = (bif decide ((i1 : Int) < (a.length : Int)) then (bif !decide ((a.getD i1 0) = k1) then (.ret (-1)) else F_laws_heldIntS_L1 a mf1 ((k1 + 1), (i1 + 1))) else (.next (k1, i1))) := rfl
def F_laws_heldIntS (a : List Int) (k : Int) : Int := ((F_laws_heldIntS_L1 a ((a.length - 0) + 1) (k, 0)).elim (fun (k1, _) => k1) (fun r => r))

def F_laws_markIntSS_L1  : Nat → Int × Nat × List (List Int) → Ctl (Int × Nat × List (List Int)) (Int × List (List Int))
  | 0, s => .next s
  | mf1 + 1, (k1, i1, a1) => (bif decide ((i1 : Int) < (a1.length : Int)) then F_laws_markIntSS_L1 mf1 (((F_laws_markIntS (a1.getD i1 []) k1).1), (i1 + 1), (a1.set i1 ((F_laws_markIntS (a1.getD i1 []) k1).2))) else (.next (k1, i1, a1)))
theorem F_laws_markIntSS_L1_s (k1 : Int) (i1 : Nat) (a1 : List (List Int)) (mf1 : Nat) : F_laws_markIntSS_L1  (mf1 + 1) (k1, i1, a1) = (bif decide ((i1 : Int) < (a1.length : Int)) then F_laws_markIntSS_L1 mf1 (((F_laws_markIntS (a1.getD i1 []) k1).1), (i1 + 1), (a1.set i1 ((F_laws_markIntS (a1.getD i1 []) k1).2))) else (.next (k1, i1, a1))) := rfl
def F_laws_markIntSS (a : List (List Int)) (k : Int) : Int × List (List Int) := ((F_laws_markIntSS_L1  ((a.length - 0) + 1) (k, 0, a)).elim (fun (k1, _, a1) => (k1, a1)) (fun r => r))

def F_laws_heldIntSS_L1 (a : List (List Int)) : Nat → Int × Nat → Ctl (Int × Nat) (Int)
  | 0, s => .next s
  | mf1 + 1, (k1, i1) => (bif decide ((i1 : Int) < (a.length : Int)) then (bif decide ((F_laws_heldIntS (a.getD i1 []) k1) < 0) then (.ret (-1)) else F_laws_heldIntSS_L1 a mf1 ((F_laws_heldIntS (a.getD i1 []) k1), (i1 + 1))) else (.next (k1, i1)))
theorem F_laws_heldIntSS_L1_s (a : List (List Int)) (k1 : Int) (i1 : Nat) (mf1 : Nat) : F_laws_heldIntSS_L1 a (mf1 + 1) (k1, i1) = (bif decide ((i1 : Int) < (a.length : Int)) then (bif decide ((F_laws_heldIntS (a.getD i1 []) k1) < 0) then (.ret (-1)) else F_laws_heldIntSS_L1 a mf1 ((F_laws_heldIntS (a.getD i1 []) k1), (i1 + 1))) else (.next (k1, i1))) := rfl
def F_laws_heldIntSS (a : List (List Int)) (k : Int) : Int := ((F_laws_heldIntSS_L1 a ((a.length - 0) + 1) (k, 0)).elim (fun (k1, _) => k1) (fun r => r))


end Go.Proofs.Ytcmhgkcifejgcaa
namespace Go.Proofs.Ytcmhgkcifejgcaa
set_option linter.unusedVariables false
set_option linter.unusedSimpArgs false
open Go Go.RowKit
set_option linter.unusedVariables false

def F_cmp_isNaN_int (x : Int) : Bool := !decide (x = x)

def F_cmp_Less_int (x : Int) (y : Int) : Bool := (((!decide (x = x)) && (!(!decide (y = y)))) || (decide (x < y)))

def F_slices_IndexFunc_Sint_int_L1 (s : List Int) (f : Int → Bool) : Nat → Nat → Ctl (Nat) (Int)
  | 0, s => .next s
  | mf1 + 1, k8_1 => (bif decide ((k8_1 : Int) < (s.length : Int)) then (bif (f (s.getD k8_1 0)) then (.ret (k8_1 : Int)) else F_slices_IndexFunc_Sint_int_L1 s f mf1 (k8_1 + 1)) else (.next k8_1))
theorem F_slices_IndexFunc_Sint_int_L1_s (s : List Int) (f : Int → Bool) (k8_1 : Nat) (mf1 : Nat) : F_slices_IndexFunc_Sint_int_L1 s f (mf1 + 1) k8_1 = (bif decide ((k8_1 : Int) < (s.length : Int)) then (bif (f (s.getD k8_1 0)) then (.ret (k8_1 : Int)) else F_slices_IndexFunc_Sint_int_L1 s f mf1 (k8_1 + 1)) else (.next k8_1)) := rfl
def F_slices_IndexFunc_Sint_int (s : List Int) (f : Int → Bool) : Int := ((F_slices_IndexFunc_Sint_int_L1 s f ((s.length - 0) + 1) 0).elim (fun _ => -1) (fun r => r))

def F_slices_ContainsFunc_Sint_int (s : List Int) (f : Int → Bool) : Bool := decide (0 ≤ (F_slices_IndexFunc_Sint_int s f))

def F_slices_IndexFunc_SSint_Sint_L1 (s : List (List Int)) (f : List Int → Bool) : Nat → Nat → Ctl (Nat) (Int)
  | 0, s => .next s
  | mf1 + 1, k8_1 => (bif decide ((k8_1 : Int) < (s.length : Int)) then (bif (f (s.getD k8_1 [])) then (.ret (k8_1 : Int)) else F_slices_IndexFunc_SSint_Sint_L1 s f mf1 (k8_1 + 1)) else (.next k8_1))
theorem F_slices_IndexFunc_SSint_Sint_L1_s (s : List (List Int)) (f : List Int → Bool) (k8_1 : Nat) (mf1 : Nat) : F_slices_IndexFunc_SSint_Sint_L1 s f (mf1 + 1) k8_1 = (bif decide ((k8_1 : Int) < (s.length : Int)) then (bif (f (s.getD k8_1 [])) then (.ret (k8_1 : Int)) else F_slices_IndexFunc_SSint_Sint_L1 s f mf1 (k8_1 + 1)) else (.next k8_1)) := rfl
def F_slices_IndexFunc_SSint_Sint (s : List (List Int)) (f : List Int → Bool) : Int := ((F_slices_IndexFunc_SSint_Sint_L1 s f ((s.length - 0) + 1) 0).elim (fun _ => -1) (fun r => r))

def F_slices_ContainsFunc_SSint_Sint (s : List (List Int)) (f : List Int → Bool) : Bool := decide (0 ≤ (F_slices_IndexFunc_SSint_Sint s f))

def F_slices_IsSorted_Sint_int_L1 (x : List Int) : Nat → Int → Ctl (Int) (Bool)
  | 0, s => .next s
  | mf1 + 1, i1 => (bif decide (0 < i1) then (bif (F_cmp_Less_int (x.getD ((i1).toNat) 0) (x.getD ((i1 - 1).toNat) 0)) then (.ret false) else F_slices_IsSorted_Sint_int_L1 x mf1 (i1 - 1)) else (.next i1))
theorem F_slices_IsSorted_Sint_int_L1_s (x : List Int) (i1 : Int) (mf1 : Nat) : F_slices_IsSorted_Sint_int_L1 x (mf1 + 1) i1 = (bif decide (0 < i1) then (bif (F_cmp_Less_int (x.getD ((i1).toNat) 0) (x.getD ((i1 - 1).toNat) 0)) then (.ret false) else F_slices_IsSorted_Sint_int_L1 x mf1 (i1 - 1)) else (.next i1)) := rfl
def F_slices_IsSorted_Sint_int (x : List Int) : Bool := ((F_slices_IsSorted_Sint_int_L1 x (((((x.length : Int) - 1) + 1).toNat) + 1) ((x.length : Int) - 1)).elim (fun _ => true) (fun r => r))

def F_impl_areIn_1 (n : Int) (low : Int) (high : Int) : Bool := !((decide (low ≤ n)) && (decide (n ≤ high)))

def F_impl_areIn (l : List Int) (many : Int) (low : Int) (high : Int) : Bool := (((decide (1 ≤ (l.length : Int))) && (decide ((l.length : Int) ≤ many))) && (!(F_slices_ContainsFunc_Sint_int l (fun n => F_impl_areIn_1 n low high))))

def F_impl_size (n : Int) : Int := max n (-n)

def F_impl_isRow (row : List Int) : Bool := ((F_impl_areIn row 3 0 99) && (F_slices_IsSorted_Sint_int row))

def F_spec_l1Most (a : Int) (b : Int) : Int := (bif decide (b < a) then a else b)

def F_spec_l6Places_L1 (list : List Int) : Nat → Nat → Ctl (Nat) (Bool)
  | 0, s => .next s
  | mf1 + 1, i1 => (bif decide ((i1 : Int) < (list.length : Int)) then (bif !((decide (0 ≤ (list.getD i1 0))) && (decide ((list.getD i1 0) ≤ 99))) then (.ret false) else F_spec_l6Places_L1 list mf1 (i1 + 1)) else (.next i1))
theorem F_spec_l6Places_L1_s (list : List Int) (i1 : Nat) (mf1 : Nat) : F_spec_l6Places_L1 list (mf1 + 1) i1 = (bif decide ((i1 : Int) < (list.length : Int)) then (bif !((decide (0 ≤ (list.getD i1 0))) && (decide ((list.getD i1 0) ≤ 99))) then (.ret false) else F_spec_l6Places_L1 list mf1 (i1 + 1)) else (.next i1)) := rfl
def F_spec_l6Places (list : List Int) : Bool := ((F_spec_l6Places_L1 list ((list.length - 0) + 1) 0).elim (fun _ => true) (fun r => r))

def F_spec_l6Ascending_L1 (list : List Int) : Nat → Nat → Ctl (Nat) (Bool)
  | 0, s => .next s
  | mf1 + 1, i1 => (bif decide ((i1 : Int) < (list.length : Int)) then (bif decide ((list.getD i1 0) < (list.getD (((i1 : Int) - 1).toNat) 0)) then (.ret false) else F_spec_l6Ascending_L1 list mf1 (i1 + 1)) else (.next i1))
theorem F_spec_l6Ascending_L1_s (list : List Int) (i1 : Nat) (mf1 : Nat) : F_spec_l6Ascending_L1 list (mf1 + 1) i1 = (bif decide ((i1 : Int) < (list.length : Int)) then (bif decide ((list.getD i1 0) < (list.getD (((i1 : Int) - 1).toNat) 0)) then (.ret false) else F_spec_l6Ascending_L1 list mf1 (i1 + 1)) else (.next i1)) := rfl
def F_spec_l6Ascending (list : List Int) : Bool := ((F_spec_l6Ascending_L1 list ((list.length - 1) + 1) 1).elim (fun _ => true) (fun r => r))

def F_spec_l6Row (row : List Int) : Bool := ((((decide (1 ≤ (row.length : Int))) && (decide ((row.length : Int) ≤ 3))) && (F_spec_l6Places row)) && (F_spec_l6Ascending row))


end Go.Proofs.Ytcmhgkcifejgcaa
namespace Go.Proofs.Ytcmhgkcifejgcaa
set_option linter.unusedVariables false
set_option linter.unusedSimpArgs false
open Go Go.RowKit
set_option linter.unusedVariables false

def F_laws_szIntS (a : List Int) (left : Int) : Int := (bif decide (left - (a.length : Int) < 0) then -1 else left - (a.length : Int))

def F_laws_szIntSS_L1 (a : List (List Int)) : Nat → Int × Nat → Ctl (Int × Nat) (Int)
  | 0, s => .next s
  | mf1 + 1, (left1, i1) => (bif decide ((i1 : Int) < (a.length : Int)) then (bif decide ((F_laws_szIntS (a.getD i1 []) left1) < 0) then (.ret (-1)) else F_laws_szIntSS_L1 a mf1 ((F_laws_szIntS (a.getD i1 []) left1), (i1 + 1))) else (.next (left1, i1)))
theorem F_laws_szIntSS_L1_s (a : List (List Int)) (left1 : Int) (i1 : Nat) (mf1 : Nat) : F_laws_szIntSS_L1 a (mf1 + 1) (left1, i1) = (bif decide ((i1 : Int) < (a.length : Int)) then (bif decide ((F_laws_szIntS (a.getD i1 []) left1) < 0) then (.ret (-1)) else F_laws_szIntSS_L1 a mf1 ((F_laws_szIntS (a.getD i1 []) left1), (i1 + 1))) else (.next (left1, i1))) := rfl
def F_laws_szIntSS (a : List (List Int)) (left : Int) : Int := (bif decide (left - (a.length : Int) < 0) then -1 else ((F_laws_szIntSS_L1 a ((a.length - 0) + 1) ((left - (a.length : Int)), 0)).elim (fun (left1, _) => left1) (fun r => r)))

def F_laws_szMetric (m : List (List Int)) (left : Int) : Int := (bif decide ((F_laws_szIntSS m left) < 0) then -1 else (F_laws_szIntSS m left))

def F_laws_toIntSS_L1 (a : List (List Int)) : Nat → Nat × List (List Int) → Ctl (Nat × List (List Int)) (List (List Int))
  | 0, s => .next s
  | mf1 + 1, (i1, out1) => (bif decide ((i1 : Int) < (a.length : Int)) then F_laws_toIntSS_L1 a mf1 ((i1 + 1), (out1.set i1 (F_laws_toIntS (a.getD i1 [])))) else (.next (i1, out1)))
theorem F_laws_toIntSS_L1_s (a : List (List Int)) (i1 : Nat) (out1 : List (List Int)) (mf1 : Nat) : F_laws_toIntSS_L1 a (mf1 + 1) (i1, out1) = (bif decide ((i1 : Int) < (a.length : Int)) then F_laws_toIntSS_L1 a mf1 ((i1 + 1), (out1.set i1 (F_laws_toIntS (a.getD i1 [])))) else (.next (i1, out1))) := rfl
def F_laws_toIntSS (a : List (List Int)) : List (List Int) := ((F_laws_toIntSS_L1 a ((a.length - 0) + 1) (0, (List.replicate a.length ([] : List Int)))).elim (fun (_, out1) => out1) (fun r => r))

def F_laws_toMetric (m : List (List Int)) : List (List Int) := (F_laws_toIntSS m)

def F_laws_eqMetric (a : List (List Int)) (b : List (List Int)) : Bool := (bif !(F_laws_eqIntSS a b) then false else true)

def F_laws_markMetric (a : List (List Int)) (k : Int) : Int × List (List Int) := ((F_laws_markIntSS a k).1, (F_laws_markIntSS a k).2)

def F_impl_Metric_isTable_1 (row : List Int) (n : Int) : Bool := !decide ((row.length : Int) = n)

def F_impl_Metric_isTable_L2 (m : List (List Int)) (opn : Bool) (k22_1 : Nat) : Nat → Nat → Ctl (Nat) (Bool)
  | 0, s => .next s
  | mf2 + 1, k31_2 => (bif decide ((k31_2 : Int) < ((m.getD k22_1 []).length : Int)) then (bif ((decide ((k22_1 : Int) = (k31_2 : Int))) && (!decide (((m.getD k22_1 []).getD k31_2 0) = 0))) then (.ret false) else (bif !decide (((m.getD k22_1 []).getD k31_2 0) = ((m.getD k31_2 []).getD k22_1 0)) then (.ret false) else (bif decide (99 < ((m.getD k22_1 []).getD k31_2 0)) then (.ret false) else (bif (((!decide ((k22_1 : Int) = (k31_2 : Int))) && (decide (((m.getD k22_1 []).getD k31_2 0) < 1))) && (!(opn && (decide (((m.getD k22_1 []).getD k31_2 0) = -1))))) then (.ret false) else F_impl_Metric_isTable_L2 m opn k22_1 mf2 (k31_2 + 1))))) else (.next k31_2))
theorem F_impl_Metric_isTable_L2_s (m : List (List Int)) (opn : Bool) (k22_1 : Nat) (k31_2 : Nat) (mf2 : Nat) : F_impl_Metric_isTable_L2 m opn k22_1 (mf2 + 1) k31_2 = (bif decide ((k31_2 : Int) < ((m.getD k22_1 []).length : Int)) then (bif ((decide ((k22_1 : Int) = (k31_2 : Int))) && (!decide (((m.getD k22_1 []).getD k31_2 0) = 0))) then (.ret false) else (bif !decide (((m.getD k22_1 []).getD k31_2 0) = ((m.getD k31_2 []).getD k22_1 0)) then (.ret false) else (bif decide (99 < ((m.getD k22_1 []).getD k31_2 0)) then (.ret false) else (bif (((!decide ((k22_1 : Int) = (k31_2 : Int))) && (decide (((m.getD k22_1 []).getD k31_2 0) < 1))) && (!(opn && (decide (((m.getD k22_1 []).getD k31_2 0) = -1))))) then (.ret false) else F_impl_Metric_isTable_L2 m opn k22_1 mf2 (k31_2 + 1))))) else (.next k31_2)) := rfl
def F_impl_Metric_isTable_L1 (m : List (List Int)) (opn : Bool) : Nat → Nat → Ctl (Nat) (Bool)
  | 0, s => .next s
  | mf1 + 1, k22_1 => (bif decide ((k22_1 : Int) < (m.length : Int)) then ((F_impl_Metric_isTable_L2 m opn k22_1 ((((m.getD k22_1 []).length) - 0) + 1) 0).elim (fun _ => F_impl_Metric_isTable_L1 m opn mf1 (k22_1 + 1)) (fun r => .ret r)) else (.next k22_1))
theorem F_impl_Metric_isTable_L1_s (m : List (List Int)) (opn : Bool) (k22_1 : Nat) (mf1 : Nat) : F_impl_Metric_isTable_L1 m opn (mf1 + 1) k22_1 = (bif decide ((k22_1 : Int) < (m.length : Int)) then ((F_impl_Metric_isTable_L2 m opn k22_1 ((((m.getD k22_1 []).length) - 0) + 1) 0).elim (fun _ => F_impl_Metric_isTable_L1 m opn mf1 (k22_1 + 1)) (fun r => .ret r)) else (.next k22_1)) := rfl
def F_impl_Metric_isTable (m : List (List Int)) (opn : Bool) : Bool := (bif ((!((decide (1 ≤ (m.length : Int))) && (decide ((m.length : Int) ≤ 6)))) || (F_slices_ContainsFunc_SSint_Sint m (fun row => F_impl_Metric_isTable_1 row (m.length : Int)))) then false else ((F_impl_Metric_isTable_L1 m opn ((m.length - 0) + 1) 0).elim (fun _ => true) (fun r => r)))

-- FAILED (loop.example/g01087/impl.Metric).isPoint: no body: (loop.example/g01087/impl.Metric).isPoint
def F_impl_Metric_detour_L3 (m : List (List Int)) (k12_1 : Nat) (k19_2 : Nat) : Nat → Nat → Ctl (Nat) (List Int × Bool)
  | 0, s => .next s
  | mf3 + 1, k27_3 => (bif decide ((k27_3 : Int) < (m.length : Int)) then (bif decide (((m.getD k12_1 []).getD k19_2 0) + ((m.getD k19_2 []).getD k27_3 0) < ((m.getD k12_1 []).getD k27_3 0)) then (.ret ([(k12_1 : Int), (k19_2 : Int), (k27_3 : Int)], true)) else F_impl_Metric_detour_L3 m k12_1 k19_2 mf3 (k27_3 + 1)) else (.next k27_3))
theorem F_impl_Metric_detour_L3_s (m : List (List Int)) (k12_1 : Nat) (k19_2 : Nat) (k27_3 : Nat) (mf3 : Nat) : F_impl_Metric_detour_L3 m k12_1 k19_2 (mf3 + 1) k27_3 = (bif decide ((k27_3 : Int) < (m.length : Int)) then (bif decide (((m.getD k12_1 []).getD k19_2 0) + ((m.getD k19_2 []).getD k27_3 0) < ((m.getD k12_1 []).getD k27_3 0)) then (.ret ([(k12_1 : Int), (k19_2 : Int), (k27_3 : Int)], true)) else F_impl_Metric_detour_L3 m k12_1 k19_2 mf3 (k27_3 + 1)) else (.next k27_3)) := rfl
def F_impl_Metric_detour_L2 (m : List (List Int)) (k12_1 : Nat) : Nat → Nat → Ctl (Nat) (List Int × Bool)
  | 0, s => .next s
  | mf2 + 1, k19_2 => (bif decide ((k19_2 : Int) < ((m.getD k12_1 []).length : Int)) then ((F_impl_Metric_detour_L3 m k12_1 k19_2 ((m.length - 0) + 1) 0).elim (fun _ => F_impl_Metric_detour_L2 m k12_1 mf2 (k19_2 + 1)) (fun r => .ret r)) else (.next k19_2))
theorem F_impl_Metric_detour_L2_s (m : List (List Int)) (k12_1 : Nat) (k19_2 : Nat) (mf2 : Nat) : F_impl_Metric_detour_L2 m k12_1 (mf2 + 1) k19_2 = (bif decide ((k19_2 : Int) < ((m.getD k12_1 []).length : Int)) then ((F_impl_Metric_detour_L3 m k12_1 k19_2 ((m.length - 0) + 1) 0).elim (fun _ => F_impl_Metric_detour_L2 m k12_1 mf2 (k19_2 + 1)) (fun r => .ret r)) else (.next k19_2)) := rfl
def F_impl_Metric_detour_L1 (m : List (List Int)) : Nat → Nat → Ctl (Nat) (List Int × Bool)
  | 0, s => .next s
  | mf1 + 1, k12_1 => (bif decide ((k12_1 : Int) < (m.length : Int)) then ((F_impl_Metric_detour_L2 m k12_1 ((((m.getD k12_1 []).length) - 0) + 1) 0).elim (fun _ => F_impl_Metric_detour_L1 m mf1 (k12_1 + 1)) (fun r => .ret r)) else (.next k12_1))
theorem F_impl_Metric_detour_L1_s (m : List (List Int)) (k12_1 : Nat) (mf1 : Nat) : F_impl_Metric_detour_L1 m (mf1 + 1) k12_1 = (bif decide ((k12_1 : Int) < (m.length : Int)) then ((F_impl_Metric_detour_L2 m k12_1 ((((m.getD k12_1 []).length) - 0) + 1) 0).elim (fun _ => F_impl_Metric_detour_L1 m mf1 (k12_1 + 1)) (fun r => .ret r)) else (.next k12_1)) := rfl
def F_impl_Metric_detour (m : List (List Int)) : List Int × Bool := ((F_impl_Metric_detour_L1 m ((m.length - 0) + 1) 0).elim (fun _ => ([], false)) (fun r => r))

def F_impl_IsMetric (m : List (List Int)) : Bool := (bif !(F_impl_Metric_isTable m false) then false else !((F_impl_Metric_detour m).2))

def F_spec_l6Table_L1 (m : List (List Int)) : Nat → Nat → Ctl (Nat) (Bool)
  | 0, s => .next s
  | mf1 + 1, k6_1 => (bif decide ((k6_1 : Int) < (m.length : Int)) then (bif !decide (((m.getD k6_1 []).length : Int) = (m.length : Int)) then (.ret false) else F_spec_l6Table_L1 m mf1 (k6_1 + 1)) else (.next k6_1))
theorem F_spec_l6Table_L1_s (m : List (List Int)) (k6_1 : Nat) (mf1 : Nat) : F_spec_l6Table_L1 m (mf1 + 1) k6_1 = (bif decide ((k6_1 : Int) < (m.length : Int)) then (bif !decide (((m.getD k6_1 []).length : Int) = (m.length : Int)) then (.ret false) else F_spec_l6Table_L1 m mf1 (k6_1 + 1)) else (.next k6_1)) := rfl
def F_spec_l6Table_L3 (m : List (List Int)) (opn : Bool) (k7_2 : Nat) : Nat → Nat → Ctl (Nat) (Bool)
  | 0, s => .next s
  | mf3 + 1, k8_3 => (bif decide ((k8_3 : Int) < (m.length : Int)) then (bif (((!decide (((m.getD k7_2 []).getD k8_3 0) = ((m.getD k8_3 []).getD k7_2 0))) || ((decide ((k7_2 : Int) = (k8_3 : Int))) && (!decide (((m.getD k7_2 []).getD k8_3 0) = 0)))) || (((!decide ((k7_2 : Int) = (k8_3 : Int))) && (!((decide (1 ≤ ((m.getD k7_2 []).getD k8_3 0))) && (decide (((m.getD k7_2 []).getD k8_3 0) ≤ 99))))) && (!(opn && (decide (((m.getD k7_2 []).getD k8_3 0) = -1)))))) then (.ret false) else F_spec_l6Table_L3 m opn k7_2 mf3 (k8_3 + 1)) else (.next k8_3))
theorem F_spec_l6Table_L3_s (m : List (List Int)) (opn : Bool) (k7_2 : Nat) (k8_3 : Nat) (mf3 : Nat) : F_spec_l6Table_L3 m opn k7_2 (mf3 + 1) k8_3 = (bif decide ((k8_3 : Int) < (m.length : Int)) then (bif (((!decide (((m.getD k7_2 []).getD k8_3 0) = ((m.getD k8_3 []).getD k7_2 0))) || ((decide ((k7_2 : Int) = (k8_3 : Int))) && (!decide (((m.getD k7_2 []).getD k8_3 0) = 0)))) || (((!decide ((k7_2 : Int) = (k8_3 : Int))) && (!((decide (1 ≤ ((m.getD k7_2 []).getD k8_3 0))) && (decide (((m.getD k7_2 []).getD k8_3 0) ≤ 99))))) && (!(opn && (decide (((m.getD k7_2 []).getD k8_3 0) = -1)))))) then (.ret false) else F_spec_l6Table_L3 m opn k7_2 mf3 (k8_3 + 1)) else (.next k8_3)) := rfl
def F_spec_l6Table_L2 (m : List (List Int)) (opn : Bool) : Nat → Nat → Ctl (Nat) (Bool)
  | 0, s => .next s
  | mf2 + 1, k7_2 => (bif decide ((k7_2 : Int) < (m.length : Int)) then ((F_spec_l6Table_L3 m opn k7_2 ((m.length - 0) + 1) 0).elim (fun _ => F_spec_l6Table_L2 m opn mf2 (k7_2 + 1)) (fun r => .ret r)) else (.next k7_2))
theorem F_spec_l6Table_L2_s (m : List (List Int)) (opn : Bool) (k7_2 : Nat) (mf2 : Nat) : F_spec_l6Table_L2 m opn (mf2 + 1) k7_2 = (bif decide ((k7_2 : Int) < (m.length : Int)) then ((F_spec_l6Table_L3 m opn k7_2 ((m.length - 0) + 1) 0).elim (fun _ => F_spec_l6Table_L2 m opn mf2 (k7_2 + 1)) (fun r => .ret r)) else (.next k7_2)) := rfl
def F_spec_l6Table (m : List (List Int)) (opn : Bool) : Bool := (bif !((decide (1 ≤ (m.length : Int))) && (decide ((m.length : Int) ≤ 6))) then false else ((F_spec_l6Table_L1 m ((m.length - 0) + 1) 0).elim (fun _ => ((F_spec_l6Table_L2 m opn ((m.length - 0) + 1) 0).elim (fun _ => true) (fun r => r))) (fun r => r)))

def F_spec_l6Detour_L3 (m : List (List Int)) (x1 : Nat) (y2 : Nat) : Nat → Nat → Ctl (Nat) (List Int)
  | 0, s => .next s
  | mf3 + 1, z3 => (bif decide ((z3 : Int) < (m.length : Int)) then (bif decide (((m.getD x1 []).getD y2 0) + ((m.getD y2 []).getD z3 0) < ((m.getD x1 []).getD z3 0)) then (.ret ([(x1 : Int), (y2 : Int), (z3 : Int)])) else F_spec_l6Detour_L3 m x1 y2 mf3 (z3 + 1)) else (.next z3))
theorem F_spec_l6Detour_L3_s (m : List (List Int)) (x1 : Nat) (y2 : Nat) (z3 : Nat) (mf3 : Nat) : F_spec_l6Detour_L3 m x1 y2 (mf3 + 1) z3 = (bif decide ((z3 : Int) < (m.length : Int)) then (bif decide (((m.getD x1 []).getD y2 0) + ((m.getD y2 []).getD z3 0) < ((m.getD x1 []).getD z3 0)) then (.ret ([(x1 : Int), (y2 : Int), (z3 : Int)])) else F_spec_l6Detour_L3 m x1 y2 mf3 (z3 + 1)) else (.next z3)) := rfl
def F_spec_l6Detour_L2 (m : List (List Int)) (x1 : Nat) : Nat → Nat → Ctl (Nat) (List Int)
  | 0, s => .next s
  | mf2 + 1, y2 => (bif decide ((y2 : Int) < (m.length : Int)) then ((F_spec_l6Detour_L3 m x1 y2 ((m.length - 0) + 1) 0).elim (fun _ => F_spec_l6Detour_L2 m x1 mf2 (y2 + 1)) (fun r => .ret r)) else (.next y2))
theorem F_spec_l6Detour_L2_s (m : List (List Int)) (x1 : Nat) (y2 : Nat) (mf2 : Nat) : F_spec_l6Detour_L2 m x1 (mf2 + 1) y2 = (bif decide ((y2 : Int) < (m.length : Int)) then ((F_spec_l6Detour_L3 m x1 y2 ((m.length - 0) + 1) 0).elim (fun _ => F_spec_l6Detour_L2 m x1 mf2 (y2 + 1)) (fun r => .ret r)) else (.next y2)) := rfl
def F_spec_l6Detour_L1 (m : List (List Int)) : Nat → Nat → Ctl (Nat) (List Int)
  | 0, s => .next s
  | mf1 + 1, x1 => (bif decide ((x1 : Int) < (m.length : Int)) then ((F_spec_l6Detour_L2 m x1 ((m.length - 0) + 1) 0).elim (fun _ => F_spec_l6Detour_L1 m mf1 (x1 + 1)) (fun r => .ret r)) else (.next x1))
theorem F_spec_l6Detour_L1_s (m : List (List Int)) (x1 : Nat) (mf1 : Nat) : F_spec_l6Detour_L1 m (mf1 + 1) x1 = (bif decide ((x1 : Int) < (m.length : Int)) then ((F_spec_l6Detour_L2 m x1 ((m.length - 0) + 1) 0).elim (fun _ => F_spec_l6Detour_L1 m mf1 (x1 + 1)) (fun r => .ret r)) else (.next x1)) := rfl
def F_spec_l6Detour (m : List (List Int)) : List Int := ((F_spec_l6Detour_L1 m ((m.length - 0) + 1) 0).elim (fun _ => ([] : List Int)) (fun r => r))

def F_spec_l6Good (m : List (List Int)) : Bool := (bif (F_spec_l6Table m false) then decide (((F_spec_l6Detour m).length : Int) = 0) else false)


end Go.Proofs.Ytcmhgkcifejgcaa
namespace Go.Proofs.Ytcmhgkcifejgcaa
set_option linter.unusedVariables false
set_option linter.unusedSimpArgs false
open Go Go.RowKit
set_option linter.unusedVariables false

def F_spec_l1Own (a : List Int) : List Int := (([] : List Int) ++ a)

def F_slices_Clone_Sint_int (s : List Int) : List Int := (([] : List Int) ++ s)

def F_spec_l1Least (a : Int) (b : Int) : Int := (bif decide (a < b) then a else b)


end Go.Proofs.Ytcmhgkcifejgcaa
namespace Go.Proofs.Ytcmhgkcifejgcaa
set_option linter.unusedVariables false
set_option linter.unusedSimpArgs false
open Go Go.RowKit
set_option linter.unusedVariables false


end Go.Proofs.Ytcmhgkcifejgcaa
namespace Go.Proofs.Ytcmhgkcifejgcaa
set_option linter.unusedVariables false
set_option linter.unusedSimpArgs false
open Go Go.RowKit
set_option linter.unusedVariables false

def F_impl_areBelow_1 (a : Int) (n : Int) : Bool := !((decide (0 ≤ a)) && (decide (a ≤ (n - 1))))

def F_impl_areBelow (n : Int) (l : List Int) : Bool := !(F_slices_ContainsFunc_Sint_int l (fun a => F_impl_areBelow_1 a n))

def F_impl_Metric_isConfig (m : List (List Int)) (a : List Int) : Bool := ((((decide (1 ≤ (a.length : Int))) && (decide ((a.length : Int) ≤ 3))) && (F_impl_areBelow (m.length : Int) a)) && (F_slices_IsSorted_Sint_int a))

def F_spec_l6List_L1 (n : Int) (list : List Int) : Nat → Nat → Ctl (Nat) (Bool)
  | 0, s => .next s
  | mf1 + 1, i1 => (bif decide ((i1 : Int) < (list.length : Int)) then (bif !((decide (0 ≤ (list.getD i1 0))) && (decide ((list.getD i1 0) ≤ (n - 1)))) then (.ret false) else F_spec_l6List_L1 n list mf1 (i1 + 1)) else (.next i1))
theorem F_spec_l6List_L1_s (n : Int) (list : List Int) (i1 : Nat) (mf1 : Nat) : F_spec_l6List_L1 n list (mf1 + 1) i1 = (bif decide ((i1 : Int) < (list.length : Int)) then (bif !((decide (0 ≤ (list.getD i1 0))) && (decide ((list.getD i1 0) ≤ (n - 1)))) then (.ret false) else F_spec_l6List_L1 n list mf1 (i1 + 1)) else (.next i1)) := rfl
def F_spec_l6List (n : Int) (list : List Int) : Bool := ((F_spec_l6List_L1 n list ((list.length - 0) + 1) 0).elim (fun _ => true) (fun r => r))

def F_spec_l6Config (n : Int) (a : List Int) : Bool := ((((decide (1 ≤ (a.length : Int))) && (decide ((a.length : Int) ≤ 3))) && (F_spec_l6List n a)) && (F_spec_l6Ascending a))


end Go.Proofs.Ytcmhgkcifejgcaa
namespace Go.Proofs.Ytcmhgkcifejgcaa
set_option linter.unusedVariables false
set_option linter.unusedSimpArgs false
open Go Go.RowKit
set_option linter.unusedVariables false

def F_slices_Index_Sint_int_L1 (s : List Int) (v : Int) : Nat → Nat → Ctl (Nat) (Int)
  | 0, s => .next s
  | mf1 + 1, k8_1 => (bif decide ((k8_1 : Int) < (s.length : Int)) then (bif decide (v = (s.getD k8_1 0)) then (.ret (k8_1 : Int)) else F_slices_Index_Sint_int_L1 s v mf1 (k8_1 + 1)) else (.next k8_1))
theorem F_slices_Index_Sint_int_L1_s (s : List Int) (v : Int) (k8_1 : Nat) (mf1 : Nat) : F_slices_Index_Sint_int_L1 s v (mf1 + 1) k8_1 = (bif decide ((k8_1 : Int) < (s.length : Int)) then (bif decide (v = (s.getD k8_1 0)) then (.ret (k8_1 : Int)) else F_slices_Index_Sint_int_L1 s v mf1 (k8_1 + 1)) else (.next k8_1)) := rfl
def F_slices_Index_Sint_int (s : List Int) (v : Int) : Int := ((F_slices_Index_Sint_int_L1 s v ((s.length - 0) + 1) 0).elim (fun _ => -1) (fun r => r))

def F_slices_Contains_Sint_int (s : List Int) (v : Int) : Bool := decide (0 ≤ (F_slices_Index_Sint_int s v))


end Go.Proofs.Ytcmhgkcifejgcaa
namespace Go.Proofs.Ytcmhgkcifejgcaa
set_option linter.unusedVariables false
set_option linter.unusedSimpArgs false

def total (a : List (List Int)) : Nat := (a.map List.length).sum
def totalFrom (a : List (List Int)) (i : Nat) : Nat := total (a.drop i)
theorem totalFrom_zero (a : List (List Int)) : totalFrom a 0 = total a := rfl
theorem totalFrom_step (a : List (List Int)) (i : Nat) : totalFrom a i = (a.getD i []).length + totalFrom a (i + 1) := by
  unfold totalFrom total
  by_cases h : i < a.length
  · rw [List.drop_eq_getElem_cons h, List.map_cons, List.sum_cons]; simp only [List.getD_eq_getElem?_getD, List.getElem?_eq_getElem h, Option.getD_some]
  · rw [List.drop_eq_nil_of_le (by omega), List.drop_eq_nil_of_le (by omega)]
    simp [show a.length ≤ i by omega]
theorem getD_set_ne {α : Type} (l : List α) (i j : Nat) (x d : α) (h : i ≠ j) : (l.set i x).getD j d = l.getD j d := by
  simp [List.getD, h]
theorem getD_set_eq {α : Type} (l : List α) (i : Nat) (x d : α) (h : i < l.length) : (l.set i x).getD i d = x := by
  simp [List.getD, h]
theorem getD_lt {α : Type} (l : List α) (i : Nat) (d : α) (h : i < l.length) : l.getD i d = l[i] := by simp [List.getD, h]
theorem getD_ge {α : Type} (l : List α) (i : Nat) (d : α) (h : l.length ≤ i) : l.getD i d = d := by simp [List.getD, List.getElem?_eq_none h]
theorem getD_mem {α : Type} (l : List α) (i : Nat) (d : α) (h : i < l.length) : l.getD i d ∈ l := by rw [getD_lt l i d h]; exact List.getElem_mem h

/-- Rows of i numbers of at least 0. -/
def Cfg (i : Nat) (now : List (List Int)) : Prop := ∀ r ∈ now, r.length = i ∧ ∀ q ∈ r, 0 ≤ q
theorem Cfg.len {i : Nat} {now : List (List Int)} (h : Cfg i now) {j : Nat} (hj : j < now.length) : (now.getD j []).length = i := (h _ (getD_mem now j [] hj)).1
theorem Cfg.pos {i : Nat} {now : List (List Int)} (h : Cfg i now) (j t : Nat) : 0 ≤ (now.getD j []).getD t 0 := by
  by_cases hj : j < now.length
  · by_cases ht : t < (now.getD j []).length
    · exact (h _ (getD_mem now j [] hj)).2 _ (getD_mem _ t 0 ht)
    · rw [getD_ge _ _ _ (by omega)]; omega
  · rw [getD_ge now j [] (by omega), getD_ge _ _ _ (by simp)]; omega
theorem Cfg.nil (i : Nat) : Cfg i [] := fun r hr => by simp at hr
theorem Cfg.one : Cfg 0 [[]] := fun r hr => by
  simp only [List.mem_singleton] at hr; subst hr; exact ⟨rfl, fun q hq => by simp at hq⟩
theorem Cfg.push {i : Nat} {now next : List (List Int)} (h : Cfg i now) (h2 : Cfg (i + 1) next) {j : Nat} (hj : j < now.length) {x : Int} (hx : 0 ≤ x) : Cfg (i + 1) (next ++ [([] ++ now.getD j []) ++ [x]]) := by
  intro r hr
  rcases List.mem_append.1 hr with hr | hr
  · exact h2 r hr
  · simp only [List.mem_singleton] at hr
    subst hr
    obtain ⟨h3, h4⟩ := h _ (getD_mem now j [] hj)
    refine ⟨by simp only [List.length_append, List.length_cons, List.length_nil, h3]; omega, fun q hq => ?_⟩
    simp only [List.nil_append, List.mem_append, List.mem_singleton] at hq
    rcases hq with hq | rfl
    · exact h4 q hq
    · exact hx
/-! ### loops of plain functions -/
/-- A loop that looks for a place and returns there. -/
theorem scan {R : Type} (L : Nat → Nat → Ctl Nat R) (n : Nat) (p : Nat → Bool) (r : Nat → R)
    (hs : ∀ m i, L (m + 1) i = bif decide ((i : Int) < (n : Int)) then (bif p i then .ret (r i) else L m (i + 1)) else .next i) :
    ∀ fuel i, n - i < fuel → (L fuel i = .next (max i n) ∧ ∀ j, i ≤ j → j < n → p j = false) ∨ (∃ j, i ≤ j ∧ j < n ∧ L fuel i = .ret (r j) ∧ p j = true ∧ ∀ k, i ≤ k → k < j → p k = false) := by
  intro fuel
  induction fuel with
  | zero => intro i h; omega
  | succ m ih =>
    intro i h
    rw [hs]
    by_cases hlt : (i : Int) < (n : Int)
    · rw [decide_eq_true hlt, cond_true]
      cases hp : p i with
      | true => exact .inr ⟨i, Nat.le_refl _, by omega, rfl, hp, fun k h1 h2 => by omega⟩
      | false =>
        rw [cond_false]
        rcases ih (i + 1) (by omega) with ⟨h1, h2⟩ | ⟨j, h1, h2, h3, h4, h5⟩
        · refine .inl ⟨by rw [h1]; congr 1; omega, fun j hj hn => ?_⟩
          rcases Nat.eq_or_lt_of_le hj with rfl | hj
          · exact hp
          · exact h2 j hj hn
        · refine .inr ⟨j, by omega, h2, h3, h4, fun k hk hkj => ?_⟩
          rcases Nat.eq_or_lt_of_le hk with rfl | hk
          · exact hp
          · exact h5 k hk hkj
    · rw [decide_eq_false hlt, cond_false]
      exact .inl ⟨by congr 1; omega, fun j h1 h2 => by omega⟩
def foldFrom {S : Type} (f : Nat → S → S) : Nat → Nat → S → S
  | _, 0, s => s
  | i, k + 1, s => foldFrom f (i + 1) k (f i s)
/-- A loop that only goes on. The counter last, or first. -/
theorem fold_last {S R : Type} (L : Nat → S × Nat → Ctl (S × Nat) R) (n : Nat) (f : Nat → S → S)
    (hs : ∀ m s i, L (m + 1) (s, i) = bif decide ((i : Int) < (n : Int)) then L m (f i s, i + 1) else .next (s, i)) :
    ∀ fuel s i, n - i < fuel → L fuel (s, i) = .next (foldFrom f i (n - i) s, max i n) := by
  intro fuel
  induction fuel with
  | zero => intro s i h; omega
  | succ m ih =>
    intro s i h
    rw [hs]
    by_cases hlt : (i : Int) < (n : Int)
    · rw [decide_eq_true hlt, cond_true, ih _ _ (by omega)]
      have h1 : n - i = (n - (i + 1)) + 1 := by omega
      rw [h1, foldFrom]
      congr 2; omega
    · rw [decide_eq_false hlt, cond_false]
      have h1 : n - i = 0 := by omega
      rw [h1, foldFrom]
      congr 2; omega
theorem fold_first {S R : Type} (L : Nat → Nat × S → Ctl (Nat × S) R) (n : Nat) (f : Nat → S → S)
    (hs : ∀ m s i, L (m + 1) (i, s) = bif decide ((i : Int) < (n : Int)) then L m (i + 1, f i s) else .next (i, s)) :
    ∀ fuel s i, n - i < fuel → L fuel (i, s) = .next (max i n, foldFrom f i (n - i) s) := by
  intro fuel
  induction fuel with
  | zero => intro s i h; omega
  | succ m ih =>
    intro s i h
    rw [hs]
    by_cases hlt : (i : Int) < (n : Int)
    · rw [decide_eq_true hlt, cond_true, ih _ _ (by omega)]
      have h1 : n - i = (n - (i + 1)) + 1 := by omega
      rw [h1, foldFrom]
      congr 2; omega
    · rw [decide_eq_false hlt, cond_false]
      have h1 : n - i = 0 := by omega
      rw [h1, foldFrom]
      congr 2; omega
theorem foldFrom_congr {S : Type} (f g : Nat → S → S) : ∀ (k i : Nat) (s : S), (∀ j s, i ≤ j → j < i + k → f j s = g j s) → foldFrom f i k s = foldFrom g i k s
  | 0, _, _, _ => rfl
  | k + 1, i, s, h => by
    rw [foldFrom, foldFrom, h i s (Nat.le_refl _) (by omega)]
    exact foldFrom_congr f g k (i + 1) _ fun j s h1 h2 => h j s (by omega) (by omega)
theorem foldFrom_inv {S : Type} (f : Nat → S → S) (J : Nat → S → Prop) : ∀ (k i : Nat) (s : S), J i s → (∀ j s, i ≤ j → j < i + k → J j s → J (j + 1) (f j s)) → J (i + k) (foldFrom f i k s)
  | 0, _, _, h, _ => h
  | k + 1, i, s, h, hs => by
    rw [foldFrom, show i + (k + 1) = (i + 1) + k by omega]
    exact foldFrom_inv f J k (i + 1) _ (hs i s (Nat.le_refl _) (by omega) h) fun j s h1 h2 => hs j s (by omega) (by omega)
/-- A list filled from its places. -/
def tabl {α : Type} (f : Nat → α) (n : Nat) : List α := (List.range n).map f
theorem list_ext_getD {α : Type} (d : α) {a b : List α} (hl : a.length = b.length) (h : ∀ i, i < a.length → a.getD i d = b.getD i d) : a = b := by
  refine List.ext_getElem hl fun i h1 h2 => ?_
  have := h i h1
  rwa [getD_lt a i d h1, getD_lt b i d h2] at this
/-- A row on the line. -/
def Row (a : List Int) : Prop := (1 ≤ a.length ∧ a.length ≤ 3) ∧ (∀ i, i < a.length → 0 ≤ a.getD i 0 ∧ a.getD i 0 ≤ 99) ∧ (∀ i, i + 1 < a.length → a.getD i 0 ≤ a.getD (i + 1) 0)
theorem Row.el {a : List Int} (h : Row a) (i : Nat) : 0 ≤ a.getD i 0 ∧ a.getD i 0 ≤ 99 := by
  by_cases hi : i < a.length
  · exact h.2.1 i hi
  · rw [getD_ge a i 0 (by omega)]; omega
end Go.Proofs.Ytcmhgkcifejgcaa
namespace Go.Proofs.Ytcmhgkcifejgcaa
set_option linter.unusedVariables false
set_option linter.unusedSimpArgs false

theorem less_eq (x y : Int) : F_cmp_Less_int x y = decide (x < y) := by
  unfold F_cmp_Less_int; simp
theorem l1Most_eq (a b : Int) : F_spec_l1Most a b = max a b := by
  unfold F_spec_l1Most
  by_cases h : b < a
  · rw [decide_eq_true h, cond_true]; omega
  · rw [decide_eq_false h, cond_false]; omega
theorem size_eq (n : Int) : F_impl_size n = max n (-n) := rfl

/-- ContainsFunc says whether some element answers true. -/
theorem contains_f (s : List Int) (f : Int → Bool) : F_slices_ContainsFunc_Sint_int s f = true ↔ ∃ i, i < s.length ∧ f (s.getD i 0) = true := by
  unfold F_slices_ContainsFunc_Sint_int F_slices_IndexFunc_Sint_int
  rcases scan (F_slices_IndexFunc_Sint_int_L1 s f) s.length (fun i => f (s.getD i 0)) (fun i => (i : Int)) (fun m i => F_slices_IndexFunc_Sint_int_L1_s s f i m) (s.length - 0 + 1) 0 (by omega) with ⟨h1, h2⟩ | ⟨j, _, h2, h3, h4, _⟩
  · rw [h1]
    simp only [Ctl.elim]
    constructor
    · intro h; simp at h
    · rintro ⟨i, hi, hf⟩; rw [h2 i (by omega) hi] at hf; cases hf
  · rw [h3]
    simp only [Ctl.elim]
    exact ⟨fun _ => ⟨j, h2, h4⟩, fun _ => by simp⟩
theorem contains_ff (s : List (List Int)) (f : List Int → Bool) : F_slices_ContainsFunc_SSint_Sint s f = true ↔ ∃ i, i < s.length ∧ f (s.getD i []) = true := by
  unfold F_slices_ContainsFunc_SSint_Sint F_slices_IndexFunc_SSint_Sint
  rcases scan (F_slices_IndexFunc_SSint_Sint_L1 s f) s.length (fun i => f (s.getD i [])) (fun i => (i : Int)) (fun m i => F_slices_IndexFunc_SSint_Sint_L1_s s f i m) (s.length - 0 + 1) 0 (by omega) with ⟨h1, h2⟩ | ⟨j, _, h2, h3, h4, _⟩
  · rw [h1]
    simp only [Ctl.elim]
    constructor
    · intro h; simp at h
    · rintro ⟨i, hi, hf⟩; rw [h2 i (by omega) hi] at hf; cases hf
  · rw [h3]
    simp only [Ctl.elim]
    exact ⟨fun _ => ⟨j, h2, h4⟩, fun _ => by simp⟩
theorem areIn_iff (l : List Int) (many low high : Int) : F_impl_areIn l many low high = true ↔ (1 ≤ (l.length : Int) ∧ (l.length : Int) ≤ many) ∧ ∀ i, i < l.length → low ≤ l.getD i 0 ∧ l.getD i 0 ≤ high := by
  unfold F_impl_areIn
  simp only [Bool.and_eq_true, decide_eq_true_eq, Bool.not_eq_true']
  refine and_congr Iff.rfl ⟨fun h i hi => ?_, fun h => ?_⟩
  · have h2 : ¬ (∃ i, i < l.length ∧ F_impl_areIn_1 (l.getD i 0) low high = true) := fun hh => by rw [(contains_f _ _).2 hh] at h; cases h
    have h3 : ¬ F_impl_areIn_1 (l.getD i 0) low high = true := fun hh => h2 ⟨i, hi, hh⟩
    unfold F_impl_areIn_1 at h3
    simp only [Bool.not_eq_true', Bool.and_eq_false_iff, decide_eq_false_iff_not] at h3
    omega
  · rw [Bool.eq_false_iff]
    intro hh
    obtain ⟨i, hi, hf⟩ := (contains_f _ _).1 hh
    have := h i hi
    unfold F_impl_areIn_1 at hf
    simp only [Bool.not_eq_true', Bool.and_eq_false_iff, decide_eq_false_iff_not] at hf
    omega
theorem areIn_t {l : List Int} {many low high : Int} (h : F_impl_areIn l many low high = true) : (1 ≤ (l.length : Int) ∧ (l.length : Int) ≤ many) ∧ ∀ i, i < l.length → low ≤ l.getD i 0 ∧ l.getD i 0 ≤ high := (areIn_iff l many low high).1 h

theorem sorted_L1 (x : List Int) : ∀ (fuel : Nat) (i : Int), -1 ≤ i → (i + 1).toNat < fuel → i < x.length →
    ((∃ i', F_slices_IsSorted_Sint_int_L1 x fuel i = .next i') ∧ ∀ j : Nat, 0 < j → (j : Int) ≤ i → x.getD (j - 1) 0 ≤ x.getD j 0) ∨ (F_slices_IsSorted_Sint_int_L1 x fuel i = .ret false ∧ ∃ j : Nat, 0 < j ∧ (j : Int) ≤ i ∧ x.getD j 0 < x.getD (j - 1) 0) := by
  intro fuel
  induction fuel with
  | zero => intro i _ h; omega
  | succ m ih =>
    intro i h0 h hl
    rw [F_slices_IsSorted_Sint_int_L1_s, less_eq]
    by_cases hi : 0 < i
    · rw [decide_eq_true hi, cond_true]
      have e1 : (i - 1).toNat = i.toNat - 1 := by omega
      rw [e1]
      by_cases hx : x.getD i.toNat 0 < x.getD (i.toNat - 1) 0
      · rw [decide_eq_true hx, cond_true]
        exact .inr ⟨rfl, i.toNat, by omega, by omega, hx⟩
      · rw [decide_eq_false hx, cond_false]
        rcases ih (i - 1) (by omega) (by omega) (by omega) with ⟨h1, h2⟩ | ⟨h1, j, h2, h3, h4⟩
        · refine .inl ⟨h1, fun j hj hji => ?_⟩
          by_cases e : j = i.toNat
          · subst e; omega
          · exact h2 j hj (by omega)
        · exact .inr ⟨h1, j, h2, by omega, h4⟩
    · rw [decide_eq_false hi, cond_false]
      exact .inl ⟨⟨i, rfl⟩, fun j h1 h2 => by omega⟩
theorem isSorted_iff (x : List Int) : F_slices_IsSorted_Sint_int x = true ↔ ∀ i, i + 1 < x.length → x.getD i 0 ≤ x.getD (i + 1) 0 := by
  unfold F_slices_IsSorted_Sint_int
  rcases sorted_L1 x (((x.length : Int) - 1 + 1).toNat + 1) ((x.length : Int) - 1) (by omega) (by omega) (by omega) with ⟨⟨i', h1⟩, h2⟩ | ⟨h1, j, h2, h3, h4⟩
  · rw [h1]
    simp only [Ctl.elim, true_iff]
    intro i hi
    have := h2 (i + 1) (by omega) (by omega)
    simpa using this
  · rw [h1]
    simp only [Ctl.elim, Bool.false_eq_true, false_iff]
    intro h
    have := h (j - 1) (by omega)
    rw [show j - 1 + 1 = j by omega] at this
    omega
theorem isRow_iff (a : List Int) : F_impl_isRow a = true ↔ Row a := by
  unfold F_impl_isRow Row
  rw [Bool.and_eq_true, areIn_iff, isSorted_iff]
  constructor
  · rintro ⟨⟨h1, h2⟩, h3⟩; exact ⟨by omega, h2, h3⟩
  · rintro ⟨h1, h2, h3⟩; exact ⟨⟨by omega, h2⟩, h3⟩
theorem isRow_t {a : List Int} (h : F_impl_isRow a = true) : Row a := (isRow_iff a).1 h
theorem places_iff (l : List Int) : F_spec_l6Places l = true ↔ ∀ i, i < l.length → 0 ≤ l.getD i 0 ∧ l.getD i 0 ≤ 99 := by
  unfold F_spec_l6Places
  rcases scan (F_spec_l6Places_L1 l) l.length (fun i => !(decide (0 ≤ l.getD i 0) && decide (l.getD i 0 ≤ 99))) (fun _ => false) (fun m i => F_spec_l6Places_L1_s l i m) (l.length - 0 + 1) 0 (by omega) with ⟨h1, h2⟩ | ⟨j, _, h2, h3, h4, _⟩
  · rw [h1]
    simp only [Ctl.elim, true_iff]
    intro i hi
    have := h2 i (by omega) hi
    simp only [Bool.not_eq_false', Bool.and_eq_true, decide_eq_true_eq] at this
    exact this
  · rw [h3]
    simp only [Ctl.elim, Bool.false_eq_true, false_iff]
    intro h
    have := h j h2
    simp only [Bool.not_eq_true', Bool.and_eq_false_iff, decide_eq_false_iff_not] at h4
    omega
theorem ascending_iff (x : List Int) : F_spec_l6Ascending x = true ↔ ∀ i, i + 1 < x.length → x.getD i 0 ≤ x.getD (i + 1) 0 := by
  unfold F_spec_l6Ascending
  rcases scan (F_spec_l6Ascending_L1 x) x.length (fun i => decide (x.getD i 0 < x.getD (((i : Int) - 1).toNat) 0)) (fun _ => false) (fun m i => F_spec_l6Ascending_L1_s x i m) (x.length - 1 + 1) 1 (by omega) with ⟨h1, h2⟩ | ⟨j, hj, h2, h3, h4, _⟩
  · rw [h1]
    simp only [Ctl.elim, true_iff]
    intro i hi
    have := h2 (i + 1) (by omega) hi
    rw [decide_eq_false_iff_not, show (((i + 1 : Nat) : Int) - 1).toNat = i by omega] at this
    omega
  · rw [h3]
    simp only [Ctl.elim, Bool.false_eq_true, false_iff]
    intro h
    have := h (j - 1) (by omega)
    rw [decide_eq_true_eq, show ((j : Int) - 1).toNat = j - 1 by omega] at h4
    rw [show j - 1 + 1 = j by omega] at this
    omega
theorem l6Row_iff (a : List Int) : F_spec_l6Row a = true ↔ Row a := by
  unfold F_spec_l6Row Row
  rw [Bool.and_eq_true, Bool.and_eq_true, Bool.and_eq_true, places_iff, ascending_iff, decide_eq_true_eq, decide_eq_true_eq]
  constructor
  · rintro ⟨⟨⟨h0, h1⟩, h2⟩, h3⟩; exact ⟨by omega, h2, h3⟩
  · rintro ⟨h1, h2, h3⟩; exact ⟨⟨⟨by omega, by omega⟩, h2⟩, h3⟩
theorem l6Row_t {a : List Int} (h : F_spec_l6Row a = true) : Row a := (l6Row_iff a).1 h
theorem l6Row_eq (a : List Int) : F_spec_l6Row a = F_impl_isRow a := by
  rw [Bool.eq_iff_iff, l6Row_iff, isRow_iff]
/-- A copy is the list itself. -/
theorem toInt_L1 (a : List Int) : ∀ (fuel i : Nat) (out : List Int), a.length - i < fuel → out.length = a.length → (∀ j, j < i → out.getD j 0 = a.getD j 0) → ∃ i', F_laws_toIntS_L1 a fuel (i, out) = .next (i', a) := by
  intro fuel
  induction fuel with
  | zero => intro i out h; omega
  | succ m ih =>
    intro i out h hl hj
    rw [F_laws_toIntS_L1_s]
    by_cases hlt : (i : Int) < (a.length : Int)
    · rw [decide_eq_true hlt, cond_true]
      refine ih (i + 1) _ (by omega) (by simpa using hl) (fun j hji => ?_)
      by_cases e : j = i
      · subst e; rw [getD_set_eq _ _ _ _ (by omega)]
      · rw [getD_set_ne _ _ _ _ _ (Ne.symm e)]; exact hj j (by omega)
    · rw [decide_eq_false hlt, cond_false]
      refine ⟨i, ?_⟩
      rw [list_ext_getD 0 hl fun j h1 => hj j (by omega)]
theorem toIntS_eq (a : List Int) : F_laws_toIntS a = a := by
  unfold F_laws_toIntS
  obtain ⟨i', h⟩ := toInt_L1 a (a.length - 0 + 1) 0 (List.replicate a.length 0) (by omega) (by simp) (fun j h => by omega)
  rw [h]; rfl
end Go.Proofs.Ytcmhgkcifejgcaa
namespace Go.Proofs.Ytcmhgkcifejgcaa
set_option linter.unusedVariables false
set_option linter.unusedSimpArgs false

/-- k, k + 1, .. -/
def iota (k : Int) : Nat → List Int
  | 0 => []
  | n + 1 => k :: iota (k + 1) n
theorem iota_length (n : Nat) : ∀ k, (iota k n).length = n := by
  induction n with
  | zero => intro k; rfl
  | succ n ih => intro k; simp [iota, ih]
theorem iota_getD (n : Nat) : ∀ (k : Int) (i : Nat), i < n → (iota k n).getD i 0 = k + i := by
  induction n with
  | zero => intro k i h; omega
  | succ n ih =>
    intro k i h
    cases i with
    | zero => simp [iota]
    | succ i =>
      have := ih (k + 1) i (by omega)
      simp only [iota, List.getD_cons_succ, this]; omega
theorem mark_L1 : ∀ (fuel : Nat) (k : Int) (i : Nat) (a : List Int), a.length - i < fuel → i ≤ a.length →
    F_laws_markIntS_L1 fuel (k, i, a) = .next (k + (a.length - i : Nat), a.length, a.take i ++ iota k (a.length - i)) := by
  intro fuel
  induction fuel with
  | zero => intro k i a h; omega
  | succ m ih =>
    intro k i a h hi
    rw [F_laws_markIntS_L1_s]
    by_cases hlt : i < a.length
    · rw [decide_eq_true (by omega), cond_true, ih (k + 1) (i + 1) (a.set i k) (by simp; omega) (by simp; omega)]
      have h1 : a.length - i = (a.length - (i + 1)) + 1 := by omega
      simp only [List.length_set]
      congr 1
      refine Prod.ext (by show k + 1 + _ = k + _; omega) (Prod.ext rfl ?_)
      show (a.set i k).take (i + 1) ++ iota (k + 1) (a.length - (i + 1)) = a.take i ++ iota k (a.length - i)
      rw [h1, iota, List.take_succ_eq_append_getElem (by simpa using hlt), List.take_set_of_le (Nat.le_refl _)]
      simp
    · rw [decide_eq_false (by omega), cond_false]
      have h1 : i = a.length := by omega
      subst h1
      simp [iota]
theorem markIntS_eq (a : List Int) (k : Int) : F_laws_markIntS a k = (k + a.length, iota k a.length) := by
  unfold F_laws_markIntS
  rw [mark_L1 _ k 0 a (by omega) (by omega)]
  simp [Ctl.elim]
theorem markIntS_fst (a : List Int) (k : Int) : (F_laws_markIntS a k).1 = k + a.length := by rw [markIntS_eq]
theorem held_L1 (a : List Int) (k0 : Int) : ∀ (fuel : Nat) (i : Nat), (∀ j, i ≤ j → j < a.length → a.getD j 0 = k0 + j) → a.length - i < fuel → i ≤ a.length →
    F_laws_heldIntS_L1 a fuel (k0 + i, i) = .next (k0 + a.length, a.length) := by
  intro fuel
  induction fuel with
  | zero => intro i _ h; omega
  | succ m ih =>
    intro i hj h hi
    rw [F_laws_heldIntS_L1_s]
    by_cases hlt : i < a.length
    · rw [decide_eq_true (by omega), cond_true, hj i (by omega) hlt]
      simp only [decide_true, Bool.not_true, cond_false]
      have := ih (i + 1) (fun j h1 h2 => hj j (by omega) h2) (by omega) (by omega)
      rw [← this]
      congr 2; omega
    · rw [decide_eq_false (by omega), cond_false]
      have h1 : i = a.length := by omega
      subst h1; rfl
theorem heldIntS_iota (k : Int) (n : Nat) : F_laws_heldIntS (iota k n) k = k + n := by
  unfold F_laws_heldIntS
  have h := held_L1 (iota k n) k ((iota k n).length - 0 + 1) 0 (fun j _ hj => by rw [iota_length] at hj; exact iota_getD n k j hj) (by omega) (by omega)
  rw [show k + ((0 : Nat) : Int) = k by omega] at h
  rw [h]
  simp [Ctl.elim, iota_length]
theorem held_L1_le (a : List Int) : ∀ (fuel : Nat) (k : Int) (i : Nat), a.length - i < fuel →
    (F_laws_heldIntS_L1 a fuel (k, i) = .ret (-1)) ∨ (∃ i', F_laws_heldIntS_L1 a fuel (k, i) = .next (k + (a.length - i : Nat), i')) := by
  intro fuel
  induction fuel with
  | zero => intro k i h; omega
  | succ m ih =>
    intro k i h
    rw [F_laws_heldIntS_L1_s]
    by_cases hlt : i < a.length
    · rw [decide_eq_true (by omega), cond_true]
      by_cases h2 : a.getD i 0 = k
      · simp only [h2, decide_true, Bool.not_true, cond_false]
        rcases ih (k + 1) (i + 1) (by omega) with h3 | ⟨i', h3⟩
        · exact .inl h3
        · refine .inr ⟨i', ?_⟩
          rw [h3]; congr 2; omega
      · rw [decide_eq_false h2]
        exact .inl rfl
    · rw [decide_eq_false (by omega), cond_false]
      refine .inr ⟨i, ?_⟩
      have : a.length - i = 0 := by omega
      rw [this]; simp
theorem heldIntS_le (a : List Int) (k : Int) : F_laws_heldIntS a k = -1 ∨ F_laws_heldIntS a k = k + a.length := by
  unfold F_laws_heldIntS
  rcases held_L1_le a (a.length - 0 + 1) k 0 (by omega) with h | ⟨i, h⟩
  · rw [h]; exact .inl rfl
  · rw [h]; exact .inr (by simp [Ctl.elim])
/-- Rows of marks. -/
def marked (k : Int) : List (List Int) → List (List Int)
  | [] => []
  | r :: rs => iota k r.length :: marked (k + r.length) rs
theorem marked_length : ∀ (a : List (List Int)) (k : Int), (marked k a).length = a.length
  | [], _ => rfl
  | r :: rs, k => by simp [marked, marked_length rs]
theorem total_marked : ∀ (a : List (List Int)) (k : Int), total (marked k a) = total a
  | [], _ => rfl
  | r :: rs, k => by
    have := total_marked rs (k + r.length)
    simp only [total, marked, List.map_cons, List.sum_cons, iota_length] at *
    omega
theorem markSS_L1 : ∀ (fuel : Nat) (k : Int) (i : Nat) (a : List (List Int)), a.length - i < fuel → i ≤ a.length →
    F_laws_markIntSS_L1 fuel (k, i, a) = .next (k + totalFrom a i, a.length, a.take i ++ marked k (a.drop i)) := by
  intro fuel
  induction fuel with
  | zero => intro k i a h; omega
  | succ m ih =>
    intro k i a h hi
    rw [F_laws_markIntSS_L1_s]
    by_cases hlt : i < a.length
    · rw [decide_eq_true (by omega), cond_true, markIntS_eq]
      rw [ih _ (i + 1) _ (by simp; omega) (by simp; omega)]
      have hd : a.drop i = a[i] :: a.drop (i + 1) := List.drop_eq_getElem_cons hlt
      have hg : a.getD i [] = a[i] := getD_lt a i [] hlt
      have ht : (a.set i (iota k (a.getD i []).length)).drop (i + 1) = a.drop (i + 1) := List.drop_set_of_lt (by omega)
      have ht2 : totalFrom (a.set i (iota k (a.getD i []).length)) (i + 1) = totalFrom a (i + 1) := by unfold totalFrom; rw [ht]
      have hs := totalFrom_step a i
      simp only [List.length_set]
      congr 1
      refine Prod.ext (by show k + _ + _ = k + _; rw [ht2]; omega) (Prod.ext rfl ?_)
      show (a.set i (iota k (a.getD i []).length)).take (i + 1) ++ marked (k + (a.getD i []).length) ((a.set i (iota k (a.getD i []).length)).drop (i + 1)) = a.take i ++ marked k (a.drop i)
      rw [ht, hd, marked, hg, List.take_succ_eq_append_getElem (by simpa using hlt), List.take_set_of_le (Nat.le_refl _)]
      simp
    · rw [decide_eq_false (by omega), cond_false]
      have h1 : i = a.length := by omega
      subst h1
      simp [totalFrom, total, marked]
theorem markIntSS_eq (a : List (List Int)) (k : Int) : F_laws_markIntSS a k = (k + total a, marked k a) := by
  unfold F_laws_markIntSS
  rw [markSS_L1 _ k 0 a (by omega) (by omega)]
  simp [Ctl.elim, totalFrom_zero]
theorem markIntSS_total (a : List (List Int)) (k : Int) : total (F_laws_markIntSS a k).2 = total a := by rw [markIntSS_eq, total_marked]
theorem heldSS_L1 (a : List (List Int)) : ∀ (fuel : Nat) (k : Int) (i : Nat), 0 ≤ k → (marked k (a.drop i) = a.drop i) → a.length - i < fuel →
    F_laws_heldIntSS_L1 a fuel (k, i) = .next (k + totalFrom a i, max i a.length) := by
  intro fuel
  induction fuel with
  | zero => intro k i _ _ h; omega
  | succ m ih =>
    intro k i hk hm h
    rw [F_laws_heldIntSS_L1_s]
    by_cases hlt : i < a.length
    · rw [decide_eq_true (by omega), cond_true]
      have hd : a.drop i = a[i] :: a.drop (i + 1) := List.drop_eq_getElem_cons hlt
      have hg : a.getD i [] = a[i] := getD_lt a i [] hlt
      rw [hd, marked] at hm
      have h1 : iota k a[i].length = a[i] := (List.cons.inj hm).1
      have h2 := (List.cons.inj hm).2
      have h3 : F_laws_heldIntS (a.getD i []) k = k + a[i].length := by
        rw [hg]; have := heldIntS_iota k a[i].length; rw [h1] at this; exact this
      rw [h3, decide_eq_false (by omega), cond_false, ih (k + a[i].length) (i + 1) (by omega) h2 (by omega)]
      have hs := totalFrom_step a i
      rw [hg] at hs
      congr 1
      exact Prod.ext (by show k + _ + _ = k + _; omega) (by show max (i + 1) _ = max i _; omega)
    · rw [decide_eq_false (by omega), cond_false]
      congr 1
      refine Prod.ext ?_ (by show i = max i _; omega)
      show k = k + totalFrom a i
      unfold totalFrom; rw [List.drop_eq_nil_of_le (by omega)]; simp [total]
theorem marked_marked : ∀ (a : List (List Int)) (k : Int), marked k (marked k a) = marked k a
  | [], _ => rfl
  | r :: rs, k => by simp only [marked, iota_length, marked_marked rs]
theorem heldIntSS_marked (a : List (List Int)) (k : Int) (hk : 0 ≤ k) : F_laws_heldIntSS (F_laws_markIntSS a k).2 k = (F_laws_markIntSS a k).1 := by
  rw [markIntSS_eq]
  show F_laws_heldIntSS (marked k a) k = k + total a
  unfold F_laws_heldIntSS
  rw [heldSS_L1 _ _ k 0 hk (marked_marked a k) (by omega)]
  simp [Ctl.elim, totalFrom_zero, total_marked]
/-- Two lists are alike. -/
theorem eqS_L1 (a : List Int) : ∀ (fuel i : Nat), F_laws_eqIntS_L1 a a fuel i = .next i ∨ ∃ i', F_laws_eqIntS_L1 a a fuel i = .next i' := by
  intro fuel
  induction fuel with
  | zero => intro i; exact .inl rfl
  | succ m ih =>
    intro i
    right
    rw [F_laws_eqIntS_L1_s]
    by_cases hlt : (i : Int) < (a.length : Int)
    · rw [decide_eq_true hlt, cond_true, decide_eq_true rfl]
      rcases ih (i + 1) with h | ⟨i', h⟩
      · exact ⟨_, h⟩
      · exact ⟨_, h⟩
    · rw [decide_eq_false hlt]; exact ⟨i, rfl⟩
theorem eqIntS_refl (a : List Int) : F_laws_eqIntS a a = true := by
  unfold F_laws_eqIntS
  rw [decide_eq_true rfl]
  rcases eqS_L1 a (a.length - 0 + 1) 0 with h | ⟨i', h⟩ <;> rw [h] <;> rfl
theorem eqSS_L1 (a : List (List Int)) : ∀ (fuel i : Nat), ∃ i', F_laws_eqIntSS_L1 a a fuel i = .next i' := by
  intro fuel
  induction fuel with
  | zero => intro i; exact ⟨i, rfl⟩
  | succ m ih =>
    intro i
    rw [F_laws_eqIntSS_L1_s]
    by_cases hlt : (i : Int) < (a.length : Int)
    · rw [decide_eq_true hlt, cond_true, eqIntS_refl]; exact ih (i + 1)
    · rw [decide_eq_false hlt]; exact ⟨i, rfl⟩
theorem eqIntSS_refl (a : List (List Int)) : F_laws_eqIntSS a a = true := by
  unfold F_laws_eqIntSS
  rw [decide_eq_true rfl]
  obtain ⟨i', h⟩ := eqSS_L1 a (a.length - 0 + 1) 0
  rw [h]; rfl
end Go.Proofs.Ytcmhgkcifejgcaa
namespace Go.Proofs.Ytcmhgkcifejgcaa
set_option linter.unusedVariables false
set_option linter.unusedSimpArgs false

theorem upto_succ {p : Nat → Prop} {k : Nat} (h : ∀ j, j < k → p j) (hk : p k) : ∀ j, j < k + 1 → p j := fun j hj => by
  rcases Nat.lt_or_eq_of_le (Nat.le_of_lt_succ hj) with h1 | h1
  · exact h j h1
  · rw [h1]; exact hk
theorem bif_or {α : Type} (a b : Bool) (x y : α) : (bif a then x else bif b then x else y) = bif (a || b) then x else y := by cases a <;> rfl
/-- A loop whose round is another loop that may return. -/
theorem scanC {S R : Type} (L : Nat → Nat → Ctl Nat R) (n : Nat) (B : Nat → Ctl S R)
    (hs : ∀ m i, L (m + 1) i = bif decide ((i : Int) < (n : Int)) then ((B i).elim (fun _ => L m (i + 1)) (fun r => .ret r)) else .next i) :
    ∀ fuel i, n - i < fuel → (L fuel i = .next (max i n) ∧ ∀ j, i ≤ j → j < n → ∃ s, B j = .next s) ∨ (∃ j r, i ≤ j ∧ j < n ∧ L fuel i = .ret r ∧ B j = .ret r ∧ ∀ k, i ≤ k → k < j → ∃ s, B k = .next s) := by
  intro fuel
  induction fuel with
  | zero => intro i h; omega
  | succ m ih =>
    intro i h
    rw [hs]
    by_cases hlt : (i : Int) < (n : Int)
    · rw [decide_eq_true hlt, cond_true]
      cases hp : B i with
      | ret r => exact .inr ⟨i, r, Nat.le_refl _, by omega, rfl, hp, fun k h1 h2 => by omega⟩
      | next s =>
        rw [elim_next]
        rcases ih (i + 1) (by omega) with ⟨h1, h2⟩ | ⟨j, r, h1, h2, h3, h4, h5⟩
        · refine .inl ⟨by rw [h1]; congr 1; omega, fun j hj hn => ?_⟩
          rcases Nat.eq_or_lt_of_le hj with rfl | hj
          · exact ⟨s, hp⟩
          · exact h2 j hj hn
        · refine .inr ⟨j, r, by omega, h2, h3, h4, fun k hk hkj => ?_⟩
          rcases Nat.eq_or_lt_of_le hk with rfl | hk
          · exact ⟨s, hp⟩
          · exact h5 k hk hkj
    · rw [decide_eq_false hlt, cond_false]
      exact .inl ⟨by congr 1; omega, fun j h1 h2 => by omega⟩

abbrev el (m : List (List Int)) (x y : Nat) : Int := (m.getD x []).getD y 0
/-- Two distances of two points may stand in a table. -/
def okD (opn : Bool) (x y : Nat) (d e : Int) : Prop := d = e ∧ (x = y → d = 0) ∧ (x ≠ y → (1 ≤ d ∧ d ≤ 99) ∨ (opn = true ∧ d = -1))
structure TabP (opn : Bool) (m : List (List Int)) : Prop where
  n1 : 1 ≤ m.length
  n6 : m.length ≤ 6
  rows : ∀ i, i < m.length → (m.getD i []).length = m.length
  ok : ∀ x y, x < m.length → y < m.length → okD opn x y (el m x y) (el m y x)
/-- What the walks ask of a table. -/
structure Tab (m : List (List Int)) : Prop where
  n1 : 1 ≤ m.length
  n6 : m.length ≤ 6
  rows : ∀ i, i < m.length → (m.getD i []).length = m.length
  el : ∀ x y, -1 ≤ (m.getD x []).getD y 0 ∧ (m.getD x []).getD y 0 ≤ 99
theorem TabP.tab {opn : Bool} {m : List (List Int)} (h : TabP opn m) : Tab m := by
  refine ⟨h.n1, h.n6, h.rows, fun x y => ?_⟩
  by_cases hx : x < m.length
  · have hr := h.rows x hx
    by_cases hy : y < m.length
    · have := h.ok x y hx hy
      unfold okD el at this
      by_cases e : x = y
      · have := this.2.1 e; omega
      · rcases this.2.2 e with h1 | h1 <;> omega
    · rw [getD_ge _ y 0 (by omega)]; omega
  · rw [getD_ge m x [] (by omega)]; simp
theorem rows_of {m : List (List Int)} (h : F_slices_ContainsFunc_SSint_Sint m (fun row => F_impl_Metric_isTable_1 row (m.length : Int)) = false) : ∀ i, i < m.length → (m.getD i []).length = m.length := by
  intro i hi
  refine Classical.byContradiction fun hh => ?_
  have : F_slices_ContainsFunc_SSint_Sint m (fun row => F_impl_Metric_isTable_1 row (m.length : Int)) = true := (contains_ff _ _).2 ⟨i, hi, by
    unfold F_impl_Metric_isTable_1
    rw [Bool.not_eq_true', decide_eq_false_iff_not]; omega⟩
  rw [this] at h; cases h
theorem of_rows {m : List (List Int)} (h : ∀ i, i < m.length → (m.getD i []).length = m.length) : F_slices_ContainsFunc_SSint_Sint m (fun row => F_impl_Metric_isTable_1 row (m.length : Int)) = false := by
  rw [Bool.eq_false_iff]
  intro hh
  obtain ⟨i, hi, hf⟩ := (contains_ff _ _).1 hh
  have := h i hi
  unfold F_impl_Metric_isTable_1 at hf
  rw [Bool.not_eq_true', decide_eq_false_iff_not] at hf
  omega
def okI (opn : Bool) (x y : Nat) (d e : Int) : Bool := ((((decide ((x : Int) = (y : Int))) && (!decide (d = 0))) || (!decide (d = e))) || decide (99 < d)) || (((!decide ((x : Int) = (y : Int))) && (decide (d < 1))) && (!(opn && (decide (d = -1)))))
theorem okI_iff (opn : Bool) (x y : Nat) (d e : Int) : okI opn x y d e = false ↔ okD opn x y d e := by
  unfold okI okD
  cases opn <;> by_cases h1 : x = y <;> simp [h1] <;> omega
theorem isTable_L2 (m : List (List Int)) (opn : Bool) (x : Nat) (hr : (m.getD x []).length = m.length) :
    ((∃ s, F_impl_Metric_isTable_L2 m opn x ((m.getD x []).length - 0 + 1) 0 = .next s) ∧ ∀ y, y < m.length → okD opn x y (el m x y) (el m y x)) ∨
    (F_impl_Metric_isTable_L2 m opn x ((m.getD x []).length - 0 + 1) 0 = .ret false ∧ ∃ y, y < m.length ∧ ¬ okD opn x y (el m x y) (el m y x)) := by
  rcases scan (F_impl_Metric_isTable_L2 m opn x) (m.getD x []).length (fun y => okI opn x y (el m x y) (el m y x)) (fun _ => false) (fun mf i => by rw [F_impl_Metric_isTable_L2_s, bif_or, bif_or, bif_or]; rfl) ((m.getD x []).length - 0 + 1) 0 (by omega) with ⟨h1, h2⟩ | ⟨j, h1, h2, h3, h4, h5⟩
  · exact .inl ⟨⟨_, h1⟩, fun y hy => (okI_iff ..).1 (h2 y (by omega) (by omega))⟩
  · refine .inr ⟨h3, j, by omega, fun hh => ?_⟩
    rw [(okI_iff ..).2 hh] at h4; cases h4
theorem isTable_iff (m : List (List Int)) (opn : Bool) : F_impl_Metric_isTable m opn = true ↔ TabP opn m := by
  unfold F_impl_Metric_isTable
  by_cases hn : 1 ≤ m.length ∧ m.length ≤ 6
  · rw [show (decide (1 ≤ (m.length : Int))) = true from decide_eq_true (by omega), show (decide ((m.length : Int) ≤ 6)) = true from decide_eq_true (by omega)]
    by_cases hr : ∀ i, i < m.length → (m.getD i []).length = m.length
    · rw [of_rows hr]
      simp only [Bool.and_self, Bool.not_true, Bool.or_self, cond_false]
      rcases scanC (F_impl_Metric_isTable_L1 m opn) m.length _ (fun mf i => F_impl_Metric_isTable_L1_s m opn i mf) (m.length - 0 + 1) 0 (by omega) with ⟨h1, h2⟩ | ⟨j, r, h1, h2, h3, h4, h5⟩
      · rw [h1]
        simp only [elim_next, true_iff]
        refine ⟨hn.1, hn.2, hr, fun x y hx hy => ?_⟩
        obtain ⟨s, hs⟩ := h2 x (by omega) hx
        rcases isTable_L2 m opn x (hr x hx) with ⟨_, h⟩ | ⟨h, _⟩
        · exact h y hy
        · rw [h] at hs; cases hs
      · rw [h3]
        rcases isTable_L2 m opn j (hr j h2) with ⟨⟨s, h⟩, _⟩ | ⟨h, y, hy, hh⟩
        · rw [h] at h4; cases h4
        · rw [h] at h4
          cases h4
          simp only [elim_ret, Bool.false_eq_true, false_iff]
          exact fun ht => hh (ht.ok j y h2 hy)
    · have hc : F_slices_ContainsFunc_SSint_Sint m (fun row => F_impl_Metric_isTable_1 row (m.length : Int)) = true := by
        cases h : F_slices_ContainsFunc_SSint_Sint m (fun row => F_impl_Metric_isTable_1 row (m.length : Int)) with
        | true => rfl
        | false => exact absurd (rows_of h) hr
      rw [hc]
      simp only [Bool.or_true, cond_true, Bool.false_eq_true, false_iff]
      exact fun ht => hr ht.rows
  · have h : (!((decide (1 ≤ (m.length : Int))) && (decide ((m.length : Int) ≤ 6)))) = true := by
      rw [Bool.not_eq_true', Bool.and_eq_false_iff, decide_eq_false_iff_not, decide_eq_false_iff_not]; omega
    rw [h]
    simp only [Bool.true_or, cond_true, Bool.false_eq_true, false_iff]
    exact fun ht => hn ⟨ht.n1, ht.n6⟩
theorem isTable_t {m : List (List Int)} {opn : Bool} (h : F_impl_Metric_isTable m opn = true) : Tab m := ((isTable_iff m opn).1 h).tab
def okS (opn : Bool) (x y : Nat) (d e : Int) : Bool := (((!decide (d = e)) || ((decide ((x : Int) = (y : Int))) && (!decide (d = 0)))) || (((!decide ((x : Int) = (y : Int))) && (!((decide (1 ≤ d)) && (decide (d ≤ 99))))) && (!(opn && (decide (d = -1))))))
theorem okS_iff (opn : Bool) (x y : Nat) (d e : Int) : okS opn x y d e = false ↔ okD opn x y d e := by
  unfold okS okD
  cases opn <;> by_cases h1 : x = y <;> simp [h1] <;> omega
theorem l6Table_L3 (m : List (List Int)) (opn : Bool) (x : Nat) :
    ((∃ s, F_spec_l6Table_L3 m opn x (m.length - 0 + 1) 0 = .next s) ∧ ∀ y, y < m.length → okD opn x y (el m x y) (el m y x)) ∨
    (F_spec_l6Table_L3 m opn x (m.length - 0 + 1) 0 = .ret false ∧ ∃ y, y < m.length ∧ ¬ okD opn x y (el m x y) (el m y x)) := by
  rcases scan (F_spec_l6Table_L3 m opn x) m.length (fun y => okS opn x y (el m x y) (el m y x)) (fun _ => false) (fun mf i => F_spec_l6Table_L3_s m opn x i mf) (m.length - 0 + 1) 0 (by omega) with ⟨h1, h2⟩ | ⟨j, h1, h2, h3, h4, h5⟩
  · exact .inl ⟨⟨_, h1⟩, fun y hy => (okS_iff ..).1 (h2 y (by omega) (by omega))⟩
  · refine .inr ⟨h3, j, by omega, fun hh => ?_⟩
    rw [(okS_iff ..).2 hh] at h4; cases h4
theorem l6Table_iff (m : List (List Int)) (opn : Bool) : F_spec_l6Table m opn = true ↔ TabP opn m := by
  unfold F_spec_l6Table
  by_cases hn : 1 ≤ m.length ∧ m.length ≤ 6
  · rw [show (decide (1 ≤ (m.length : Int))) = true from decide_eq_true (by omega), show (decide ((m.length : Int) ≤ 6)) = true from decide_eq_true (by omega)]
    simp only [Bool.and_self, Bool.not_true, cond_false]
    rcases scan (F_spec_l6Table_L1 m) m.length _ (fun _ => false) (fun mf i => F_spec_l6Table_L1_s m i mf) (m.length - 0 + 1) 0 (by omega) with ⟨g1, g2⟩ | ⟨j, g1, g2, g3, g4, g5⟩
    · rw [g1, elim_next]
      have hr : ∀ i, i < m.length → (m.getD i []).length = m.length := fun i hi => by
        have := g2 i (by omega) hi
        rw [Bool.not_eq_false', decide_eq_true_eq] at this; omega
      rcases scanC (F_spec_l6Table_L2 m opn) m.length _ (fun mf i => F_spec_l6Table_L2_s m opn i mf) (m.length - 0 + 1) 0 (by omega) with ⟨h1, h2⟩ | ⟨j, r, h1, h2, h3, h4, h5⟩
      · rw [h1]
        simp only [elim_next, true_iff]
        refine ⟨hn.1, hn.2, hr, fun x y hx hy => ?_⟩
        obtain ⟨s, hs⟩ := h2 x (by omega) hx
        rcases l6Table_L3 m opn x with ⟨_, h⟩ | ⟨h, _⟩
        · exact h y hy
        · rw [h] at hs; cases hs
      · rw [h3]
        rcases l6Table_L3 m opn j with ⟨⟨s, h⟩, _⟩ | ⟨h, y, hy, hh⟩
        · rw [h] at h4; cases h4
        · rw [h] at h4
          cases h4
          simp only [elim_ret, Bool.false_eq_true, false_iff]
          exact fun ht => hh (ht.ok j y h2 hy)
    · rw [g3]
      simp only [elim_ret, Bool.false_eq_true, false_iff]
      intro ht
      have := ht.rows j g2
      rw [Bool.not_eq_true', decide_eq_false_iff_not] at g4; omega
  · have h : (!((decide (1 ≤ (m.length : Int))) && (decide ((m.length : Int) ≤ 6)))) = true := by
      rw [Bool.not_eq_true', Bool.and_eq_false_iff, decide_eq_false_iff_not, decide_eq_false_iff_not]; omega
    rw [h]
    simp only [cond_true, Bool.false_eq_true, false_iff]
    exact fun ht => hn ⟨ht.n1, ht.n6⟩
theorem l6Table_t {m : List (List Int)} {opn : Bool} (h : F_spec_l6Table m opn = true) : Tab m := ((l6Table_iff m opn).1 h).tab
theorem table_eq (m : List (List Int)) (opn : Bool) : F_impl_Metric_isTable m opn = F_spec_l6Table m opn := by
  rw [Bool.eq_iff_iff, isTable_iff, l6Table_iff]

/-! the first detour -/
def Ctl.mapR {S R R' : Type} (f : R → R') : Ctl S R → Ctl S R'
  | .next s => .next s
  | .ret r => .ret (f r)
theorem detour_L3 (m : List (List Int)) (x y : Nat) : ∀ fuel z, F_impl_Metric_detour_L3 m x y fuel z = (F_spec_l6Detour_L3 m x y fuel z).mapR (fun l => (l, true)) := by
  intro fuel
  induction fuel with
  | zero => intro z; rfl
  | succ mf ih =>
    intro z
    rw [F_impl_Metric_detour_L3_s, F_spec_l6Detour_L3_s, ih]
    cases decide ((z : Int) < (m.length : Int))
    · rfl
    · cases decide ((m.getD x []).getD y 0 + (m.getD y []).getD z 0 < (m.getD x []).getD z 0) <;> rfl
theorem detour_L2 (m : List (List Int)) (x : Nat) (hr : (m.getD x []).length = m.length) : ∀ fuel y, F_impl_Metric_detour_L2 m x fuel y = (F_spec_l6Detour_L2 m x fuel y).mapR (fun l => (l, true)) := by
  intro fuel
  induction fuel with
  | zero => intro z; rfl
  | succ mf ih =>
    intro y
    rw [F_impl_Metric_detour_L2_s, F_spec_l6Detour_L2_s, ih, detour_L3, hr]
    cases decide ((y : Int) < (m.length : Int))
    · rfl
    · cases F_spec_l6Detour_L3 m x y (m.length - 0 + 1) 0 <;> rfl
theorem detour_L1 (m : List (List Int)) (hr : ∀ i, i < m.length → (m.getD i []).length = m.length) : ∀ fuel x, F_impl_Metric_detour_L1 m fuel x = (F_spec_l6Detour_L1 m fuel x).mapR (fun l => (l, true)) := by
  intro fuel
  induction fuel with
  | zero => intro z; rfl
  | succ mf ih =>
    intro x
    rw [F_impl_Metric_detour_L1_s, F_spec_l6Detour_L1_s, ih]
    by_cases h : (x : Int) < (m.length : Int)
    · rw [decide_eq_true h, cond_true, cond_true, detour_L2 m x (hr x (by omega)), hr x (by omega)]
      cases F_spec_l6Detour_L2 m x (m.length - 0 + 1) 0 <;> rfl
    · rw [decide_eq_false h]; rfl
theorem l6Detour_L3_ret (m : List (List Int)) (x y : Nat) : ∀ fuel z r, F_spec_l6Detour_L3 m x y fuel z = .ret r → r.length = 3 := by
  intro fuel
  induction fuel with
  | zero => intro z r h; cases h
  | succ mf ih =>
    intro z r
    rw [F_spec_l6Detour_L3_s]
    cases decide ((z : Int) < (m.length : Int))
    · intro h; cases h
    · cases decide ((m.getD x []).getD y 0 + (m.getD y []).getD z 0 < (m.getD x []).getD z 0)
      · exact ih (z + 1) r
      · intro h; cases h; rfl
theorem l6Detour_L2_ret (m : List (List Int)) (x : Nat) : ∀ fuel y r, F_spec_l6Detour_L2 m x fuel y = .ret r → r.length = 3 := by
  intro fuel
  induction fuel with
  | zero => intro z r h; cases h
  | succ mf ih =>
    intro y r
    rw [F_spec_l6Detour_L2_s]
    cases decide ((y : Int) < (m.length : Int))
    · intro h; cases h
    · cases h : F_spec_l6Detour_L3 m x y (m.length - 0 + 1) 0 with
      | next s => exact ih (y + 1) r
      | ret r' => intro h'; cases h'; exact l6Detour_L3_ret m x y _ _ _ h
theorem l6Detour_L1_ret (m : List (List Int)) : ∀ fuel x r, F_spec_l6Detour_L1 m fuel x = .ret r → r.length = 3 := by
  intro fuel
  induction fuel with
  | zero => intro z r h; cases h
  | succ mf ih =>
    intro y r
    rw [F_spec_l6Detour_L1_s]
    cases decide ((y : Int) < (m.length : Int))
    · intro h; cases h
    · cases h : F_spec_l6Detour_L2 m y (m.length - 0 + 1) 0 with
      | next s => exact ih (y + 1) r
      | ret r' => intro h'; cases h'; exact l6Detour_L2_ret m y _ _ _ h
theorem detour_eq (m : List (List Int)) (hr : ∀ i, i < m.length → (m.getD i []).length = m.length) : F_impl_Metric_detour m = (F_spec_l6Detour m, decide (0 < ((F_spec_l6Detour m).length : Int))) := by
  unfold F_impl_Metric_detour F_spec_l6Detour
  rw [detour_L1 m hr]
  cases h : F_spec_l6Detour_L1 m (m.length - 0 + 1) 0 with
  | next s => rfl
  | ret r => have := l6Detour_L1_ret m _ _ _ h; simp [Ctl.mapR, Ctl.elim, this]
theorem markIntS_len (a : List Int) (k : Int) : (F_laws_markIntS a k).2.length = a.length := by rw [markIntS_eq]; exact iota_length _ _
theorem markMetric_total (a : List (List Int)) (k : Int) : total (F_laws_markMetric a k).2 = total a := markIntSS_total a k
theorem l6Good_iff (m : List (List Int)) : F_spec_l6Good m = true ↔ TabP false m ∧ F_spec_l6Detour m = [] := by
  unfold F_spec_l6Good
  rw [← l6Table_iff]
  cases F_spec_l6Table m false with
  | false => simp
  | true => simp [List.length_eq_zero_iff]
theorem l6Good_t {m : List (List Int)} (h : F_spec_l6Good m = true) : Tab m := ((l6Good_iff m).1 h).1.tab
theorem isMetric_eq (m : List (List Int)) : F_impl_IsMetric m = F_spec_l6Good m := by
  unfold F_impl_IsMetric F_spec_l6Good
  rw [table_eq]
  cases h : F_spec_l6Table m false with
  | false => rfl
  | true =>
    rw [detour_eq m ((l6Table_iff m false).1 h).rows]
    simp only [Bool.not_true, cond_false, cond_true]
    cases F_spec_l6Detour m <;> simp
    omega
theorem isMetric_t {m : List (List Int)} (h : F_impl_IsMetric m = true) : Tab m := l6Good_t (by rw [← isMetric_eq]; exact h)

/-! the law's words -/
theorem szIntS_le (a : List Int) (left : Int) (h : 0 ≤ left) : F_laws_szIntS a left ≤ left ∧ (0 ≤ F_laws_szIntS a left → F_laws_szIntS a left = left - a.length) := by
  unfold F_laws_szIntS
  by_cases h1 : left - (a.length : Int) < 0
  · rw [decide_eq_true h1, cond_true]; omega
  · rw [decide_eq_false h1, cond_false]; omega
theorem szSS_L1 (a : List (List Int)) : ∀ (fuel : Nat) (left : Int) (i : Nat), 0 ≤ left → a.length - i < fuel →
    (F_laws_szIntSS_L1 a fuel (left, i) = .ret (-1)) ∨ (∃ l' i', F_laws_szIntSS_L1 a fuel (left, i) = .next (l', i') ∧ 0 ≤ l' ∧ l' + totalFrom a i = left) := by
  intro fuel
  induction fuel with
  | zero => intro left i _ h; omega
  | succ mf ih =>
    intro left i h0 h
    rw [F_laws_szIntSS_L1_s]
    by_cases hlt : (i : Int) < (a.length : Int)
    · rw [decide_eq_true hlt, cond_true]
      have h2 := szIntS_le (a.getD i []) left h0
      by_cases h1 : F_laws_szIntS (a.getD i []) left < 0
      · rw [decide_eq_true h1, cond_true]; exact .inl rfl
      · rw [decide_eq_false h1, cond_false]
        have h3 := totalFrom_step a i
        rcases ih (F_laws_szIntS (a.getD i []) left) (i + 1) (by omega) (by omega) with h4 | ⟨l', i', h4, h5, h6⟩
        · exact .inl h4
        · exact .inr ⟨l', i', h4, h5, by omega⟩
    · rw [decide_eq_false hlt, cond_false]
      refine .inr ⟨left, i, rfl, h0, ?_⟩
      have : totalFrom a i = 0 := by unfold totalFrom; rw [List.drop_eq_nil_of_le (by omega)]; rfl
      omega
theorem szIntSS_t (a : List (List Int)) (left : Int) (h : 0 ≤ F_laws_szIntSS a left) : F_laws_szIntSS a left = left - a.length - total a := by
  unfold F_laws_szIntSS at *
  by_cases h1 : left - (a.length : Int) < 0
  · rw [decide_eq_true h1, cond_true] at h; omega
  · rw [decide_eq_false h1, cond_false] at *
    rcases szSS_L1 a (a.length - 0 + 1) (left - a.length) 0 (by omega) (by omega) with h2 | ⟨l', i', h2, h3, h4⟩
    · rw [h2] at h; simp [Ctl.elim] at h
    · rw [h2]; simp only [elim_next]; rw [totalFrom_zero] at h4; omega
theorem row_le_total (a : List (List Int)) (i : Nat) : (a.getD i []).length ≤ total a := by
  have h := totalFrom_step a i
  have : ∀ i, totalFrom a i ≤ total a := by
    intro i
    induction i with
    | zero => exact Nat.le_refl _
    | succ i ih => have := totalFrom_step a i; omega
  have := this i
  omega
theorem szMetric_t {m : List (List Int)} {left : Int} (h : 0 ≤ F_laws_szMetric m left) : (m.length : Int) + total m ≤ left ∧ ∀ i, ((m.getD i []).length : Int) ≤ left := by
  unfold F_laws_szMetric at h
  by_cases h1 : F_laws_szIntSS m left < 0
  · rw [decide_eq_true h1, cond_true] at h; omega
  · rw [decide_eq_false h1, cond_false] at h
    have := szIntSS_t m left h
    exact ⟨by omega, fun i => by have := row_le_total m i; omega⟩
theorem toSS_L1 (a : List (List Int)) : ∀ (fuel i : Nat) (out : List (List Int)), a.length - i < fuel → out.length = a.length → (∀ j, j < i → out.getD j [] = a.getD j []) → ∃ i', F_laws_toIntSS_L1 a fuel (i, out) = .next (i', a) := by
  intro fuel
  induction fuel with
  | zero => intro i out h; omega
  | succ m ih =>
    intro i out h hl hj
    rw [F_laws_toIntSS_L1_s, toIntS_eq]
    by_cases hlt : (i : Int) < (a.length : Int)
    · rw [decide_eq_true hlt, cond_true]
      refine ih (i + 1) _ (by omega) (by simpa using hl) (fun j hji => ?_)
      by_cases e : j = i
      · subst e; rw [getD_set_eq _ _ _ _ (by omega)]
      · rw [getD_set_ne _ _ _ _ _ (Ne.symm e)]; exact hj j (by omega)
    · rw [decide_eq_false hlt, cond_false]
      refine ⟨i, ?_⟩
      rw [list_ext_getD [] hl fun j h1 => hj j (by omega)]
theorem toIntSS_eq (a : List (List Int)) : F_laws_toIntSS a = a := by
  unfold F_laws_toIntSS
  obtain ⟨i', h⟩ := toSS_L1 a (a.length - 0 + 1) 0 (List.replicate a.length []) (by omega) (by simp) (fun j h => by omega)
  rw [h]; rfl
theorem toMetric_eq (a : List (List Int)) : F_laws_toMetric a = a := toIntSS_eq a
theorem eqMetric_refl (a : List (List Int)) : F_laws_eqMetric a a = true := by unfold F_laws_eqMetric; rw [eqIntSS_refl]; rfl
theorem markMetric_eq (a : List (List Int)) (k : Int) : F_laws_markMetric a k = (k + total a, marked k a) := by unfold F_laws_markMetric; rw [markIntSS_eq]
theorem heldIntS_marked (a : List Int) (k : Int) : F_laws_heldIntS (F_laws_markIntS a k).2 k = (F_laws_markIntS a k).1 := by
  rw [markIntS_eq]; exact heldIntS_iota k a.length
end Go.Proofs.Ytcmhgkcifejgcaa
namespace Go.Proofs.Ytcmhgkcifejgcaa
set_option linter.unusedVariables false
set_option linter.unusedSimpArgs false

theorem l1Least_eq (a b : Int) : F_spec_l1Least a b = min a b := by
  unfold F_spec_l1Least
  by_cases h : a < b
  · rw [decide_eq_true h, cond_true]; omega
  · rw [decide_eq_false h, cond_false]; omega
theorem l1Has_iff (l : List Int) (n : Int) : F_spec_l1Has l n = true ↔ ∃ i, i < l.length ∧ l.getD i 0 = n := by
  unfold F_spec_l1Has
  rcases scan (F_spec_l1Has_L1 l n) l.length (fun i => decide (l.getD i 0 = n)) (fun _ => true) (fun m i => F_spec_l1Has_L1_s l n i m) (l.length - 0 + 1) 0 (by omega) with ⟨h1, h2⟩ | ⟨j, _, h2, h3, h4, _⟩
  · rw [h1]
    simp only [Ctl.elim]
    constructor
    · intro h; simp at h
    · rintro ⟨i, hi, hf⟩; have := h2 i (by omega) hi; rw [decide_eq_false_iff_not] at this; exact absurd hf this
  · rw [h3]
    simp only [Ctl.elim, true_iff]
    exact ⟨j, h2, by simpa using h4⟩
theorem l1Has_f {l : List Int} {n : Int} (h : F_spec_l1Has l n = false) : ∀ i, i < l.length → l.getD i 0 ≠ n := fun i hi he => by
  rw [(l1Has_iff l n).2 ⟨i, hi, he⟩] at h; cases h
theorem sorted_le {x : List Int} (hs : ∀ i, i + 1 < x.length → x.getD i 0 ≤ x.getD (i + 1) 0) : ∀ d i, i + d < x.length → x.getD i 0 ≤ x.getD (i + d) 0
  | 0, i, _ => Int.le_refl _
  | d + 1, i, h => Int.le_trans (sorted_le hs d i (by omega)) (hs (i + d) h)
theorem getD_set (l : List Int) (i j : Nat) (x : Int) (h : i < l.length) : (l.set i x).getD j 0 = if i = j then x else l.getD j 0 := by
  by_cases e : i = j
  · subst e; rw [if_pos rfl, getD_set_eq _ _ _ _ h]
  · rw [if_neg e, getD_set_ne _ _ _ _ _ e]
/-! the potential -/
theorem foldFrom_add (f : Nat → Int → Int) (g : Nat → Int) (hf : ∀ i s, f i s = s + g i) : ∀ k i s, foldFrom f i k s = s + foldFrom f i k 0
  | 0, _, s => by simp [foldFrom]
  | k + 1, i, s => by
    rw [foldFrom, foldFrom, foldFrom_add f g hf k (i + 1) (f i s), foldFrom_add f g hf k (i + 1) (f i 0), hf, hf]; omega
def addsUp (row : List Int) (i : Nat) (s : Int) : Int := foldFrom (fun k s => s + row.getD i 0 - row.getD k 0) 0 i s
theorem addsUp_add (row : List Int) (i : Nat) (s : Int) : addsUp row i s = s + addsUp row i 0 :=
  foldFrom_add _ (fun k => row.getD i 0 - row.getD k 0) (fun _ _ => by omega) i 0 s
theorem addsUp_le {a : List Int} (ha : Row a) (i : Nat) (s : Int) : s - 99 * i ≤ addsUp a i s ∧ addsUp a i s ≤ s + 99 * i := by
  have h := foldFrom_inv (fun k t => t + a.getD i 0 - a.getD k 0) (fun k t => s - 99 * k ≤ t ∧ t ≤ s + 99 * k) i 0 s (by omega) (fun j t _ _ h => by
    have h1 := ha.el j; have h2 := ha.el i; omega)
  simp only [Nat.zero_add] at h
  exact h
theorem take_el {a : List Int} (ha : Row a) (i k : Nat) : 0 ≤ ((a.take i).drop 0).getD k 0 ∧ ((a.take i).drop 0).getD k 0 ≤ 99 := by
  by_cases h : k < ((a.take i).drop 0).length
  · have hk : k < i := by simp at h; omega
    have : ((a.take i).drop 0).getD k 0 = a.getD k 0 := by simp [hk]
    rw [this]; exact ha.el k
  · rw [getD_ge _ k 0 (by omega)]; omega
theorem take_len (a : List Int) (i : Nat) : ((a.take i).drop 0).length ≤ i := by simp; omega
end Go.Proofs.Ytcmhgkcifejgcaa
namespace Go.Proofs.Ytcmhgkcifejgcaa
set_option linter.unusedVariables false
set_option linter.unusedSimpArgs false

def grid (n : Nat) (f : Nat → Nat → Int) : List (List Int) := (List.range n).map fun x => (List.range n).map fun y => f x y
theorem grid_len (n : Nat) (f : Nat → Nat → Int) : (grid n f).length = n := by simp [grid]
theorem grid_get (n : Nat) (f : Nat → Nat → Int) (x : Nat) (h : x < n) : (grid n f).getD x [] = (List.range n).map fun y => f x y := by simp [grid, h]
theorem grid_row (n : Nat) (f : Nat → Nat → Int) (x : Nat) (h : x < n) : ((grid n f).getD x []).length = n := by rw [grid_get n f x h]; simp
theorem grid_el (n : Nat) (f : Nat → Nat → Int) (x y : Nat) (h : x < n) (hy : y < n) : el (grid n f) x y = f x y := by
  unfold el; rw [grid_get n f x h]; simp [hy]
theorem grid_ext {m : List (List Int)} {n : Nat} {f : Nat → Nat → Int} (h1 : m.length = n) (h2 : ∀ x, x < n → (m.getD x []).length = n) (h3 : ∀ x y, x < n → y < n → el m x y = f x y) : m = grid n f := by
  refine list_ext_getD [] (by rw [h1, grid_len]) fun x hx => ?_
  rw [h1] at hx
  refine list_ext_getD 0 (by rw [h2 x hx, grid_row n f x hx]) fun y hy => ?_
  rw [h2 x hx] at hy
  have := h3 x y hx hy
  have h4 := grid_el n f x y hx hy
  unfold el at this h4
  rw [this, h4]
theorem fold_app {α : Type} (f : Nat → α) : ∀ k i (s : List α), foldFrom (fun i s => s ++ [f i]) i k s = s ++ (List.range' i k).map f
  | 0, i, s => by simp [foldFrom]
  | k + 1, i, s => by rw [foldFrom, fold_app f k (i + 1), List.range'_succ]; simp
theorem decide_toNat (n : Int) (i : Nat) : decide ((i : Int) < n) = decide ((i : Int) < (n.toNat : Int)) := decide_eq_decide.2 (by omega)
theorem range'_range (k : Nat) : List.range' 0 k = List.range k := by rw [List.range_eq_range']
/-! no detour -/
theorem detourN_L3 (m : List (List Int)) (x y : Nat) : ((∃ s, F_spec_l6Detour_L3 m x y (m.length - 0 + 1) 0 = .next s) ∧ ∀ z, z < m.length → el m x z ≤ el m x y + el m y z) ∨
    ((∃ r, F_spec_l6Detour_L3 m x y (m.length - 0 + 1) 0 = .ret r) ∧ ∃ z, z < m.length ∧ el m x y + el m y z < el m x z) := by
  rcases scan (F_spec_l6Detour_L3 m x y) m.length (fun z => decide (el m x y + el m y z < el m x z)) (fun z => [(x : Int), (y : Int), (z : Int)]) (fun mf i => F_spec_l6Detour_L3_s m x y i mf) (m.length - 0 + 1) 0 (by omega) with ⟨h1, h2⟩ | ⟨j, h1, h2, h3, h4, h5⟩
  · refine .inl ⟨⟨_, h1⟩, fun z hz => ?_⟩
    have := h2 z (by omega) hz
    rw [decide_eq_false_iff_not] at this; omega
  · exact .inr ⟨⟨_, h3⟩, j, h2, by simpa using h4⟩
theorem detourN_L2 (m : List (List Int)) (x : Nat) : ((∃ s, F_spec_l6Detour_L2 m x (m.length - 0 + 1) 0 = .next s) ∧ ∀ y z, y < m.length → z < m.length → el m x z ≤ el m x y + el m y z) ∨
    ((∃ r, F_spec_l6Detour_L2 m x (m.length - 0 + 1) 0 = .ret r) ∧ ∃ y z, y < m.length ∧ z < m.length ∧ el m x y + el m y z < el m x z) := by
  rcases scanC (F_spec_l6Detour_L2 m x) m.length _ (fun mf i => F_spec_l6Detour_L2_s m x i mf) (m.length - 0 + 1) 0 (by omega) with ⟨h1, h2⟩ | ⟨j, r, h1, h2, h3, h4, h5⟩
  · refine .inl ⟨⟨_, h1⟩, fun y z hy hz => ?_⟩
    obtain ⟨s, hs⟩ := h2 y (by omega) hy
    rcases detourN_L3 m x y with ⟨_, h⟩ | ⟨⟨r, h⟩, _⟩
    · exact h z hz
    · rw [h] at hs; cases hs
  · rcases detourN_L3 m x j with ⟨⟨s, h⟩, _⟩ | ⟨_, z, hz, h⟩
    · rw [h] at h4; cases h4
    · exact .inr ⟨⟨_, h3⟩, j, z, h2, hz, h⟩
theorem detour_nil (m : List (List Int)) : F_spec_l6Detour m = [] ↔ ∀ x y z, x < m.length → y < m.length → z < m.length → el m x z ≤ el m x y + el m y z := by
  unfold F_spec_l6Detour
  rcases scanC (F_spec_l6Detour_L1 m) m.length _ (fun mf i => F_spec_l6Detour_L1_s m i mf) (m.length - 0 + 1) 0 (by omega) with ⟨h1, h2⟩ | ⟨j, r, h1, h2, h3, h4, h5⟩
  · rw [h1]
    simp only [elim_next, true_iff]
    intro x y z hx hy hz
    obtain ⟨s, hs⟩ := h2 x (by omega) hx
    rcases detourN_L2 m x with ⟨_, h⟩ | ⟨⟨r, h⟩, _⟩
    · exact h y z hy hz
    · rw [h] at hs; cases hs
  · have hl := l6Detour_L1_ret m _ _ _ h3
    rw [h3]
    simp only [elim_ret]
    constructor
    · intro h; rw [h] at hl; cases hl
    · intro hh
      rcases detourN_L2 m j with ⟨⟨s, h⟩, _⟩ | ⟨_, y, z, hy, hz, h⟩
      · rw [h] at h4; cases h4
      · have := hh j y z h2 hy hz; omega
theorem isMetric_iff (m : List (List Int)) : F_impl_IsMetric m = true ↔ TabP false m ∧ ∀ x y z, x < m.length → y < m.length → z < m.length → el m x z ≤ el m x y + el m y z := by
  rw [isMetric_eq, l6Good_iff, detour_nil]
theorem metric_grid {n : Nat} {f : Nat → Nat → Int} (h1 : 1 ≤ n) (h6 : n ≤ 6) (h : ∀ x y, x < n → y < n → f x y = f y x ∧ (x = y → f x y = 0) ∧ (x ≠ y → 1 ≤ f x y ∧ f x y ≤ 99))
    (ht : ∀ x y z, x < n → y < n → z < n → f x z ≤ f x y + f y z) : F_impl_IsMetric (grid n f) = true := by
  rw [isMetric_iff]
  refine ⟨⟨by rw [grid_len]; exact h1, by rw [grid_len]; exact h6, fun i hi => ?_, fun x y hx hy => ?_⟩, fun x y z hx hy hz => ?_⟩
  · rw [grid_len] at hi ⊢; exact grid_row n f i hi
  · rw [grid_len] at hx hy
    rw [grid_el n f x y hx hy, grid_el n f y x hy hx]
    obtain ⟨a, b, c⟩ := h x y hx hy
    exact ⟨a, b, fun e => .inl (c e)⟩
  · rw [grid_len] at hx hy hz
    rw [grid_el n f x z hx hz, grid_el n f x y hx hy, grid_el n f y z hy hz]
    exact ht x y z hx hy hz
theorem bif_dec {p : Prop} [Decidable p] {α : Type} (a b : α) : (bif decide p then a else b) = if p then a else b := by by_cases h : p <;> simp [h]
/-! a table that is filled -/
def setC (c : Nat → Nat → Bool) (g : Nat → Nat → Int) (x y : Nat) (m : List (List Int)) : List (List Int) := bif c x y then m.set x ((m.getD x []).set y (g x y)) else m
structure Sq (n : Nat) (m : List (List Int)) : Prop where
  len : m.length = n
  rows : ∀ i, i < n → (m.getD i []).length = n
theorem setC_sq {n : Nat} {m : List (List Int)} (h : Sq n m) (c : Nat → Nat → Bool) (g : Nat → Nat → Int) {x y : Nat} (hx : x < n) (hy : y < n) :
    Sq n (setC c g x y m) ∧ ∀ i j, i < n → j < n → el (setC c g x y m) i j = if i = x ∧ j = y ∧ c x y = true then g x y else el m i j := by
  unfold setC
  cases hc : c x y with
  | false => exact ⟨h, fun i j _ _ => by simp⟩
  | true =>
    rw [cond_true]
    refine ⟨⟨by simpa using h.len, fun i hi => ?_⟩, fun i j hi hj => ?_⟩
    · by_cases e : x = i
      · subst e; rw [getD_set_eq _ _ _ _ (by rw [h.len]; exact hx)]; simpa using h.rows x hx
      · rw [getD_set_ne _ _ _ _ _ e]; exact h.rows i hi
    · unfold el
      by_cases e : x = i
      · subst e
        rw [getD_set_eq _ _ _ _ (by rw [h.len]; exact hx), getD_set _ _ _ _ (by rw [h.rows x hx]; exact hy)]
        by_cases e2 : y = j
        · rw [if_pos e2, if_pos ⟨rfl, e2.symm, rfl⟩]
        · rw [if_neg e2, if_neg (fun hh => e2 hh.2.1.symm)]
      · rw [getD_set_ne _ _ _ _ _ e, if_neg (fun hh => e hh.1.symm)]
theorem fill_row {n : Nat} {m : List (List Int)} (h : Sq n m) (c : Nat → Nat → Bool) (g : Nat → Nat → Int) {x : Nat} (hx : x < n) :
    Sq n (foldFrom (setC c g x) 0 n m) ∧ ∀ i j, i < n → j < n → el (foldFrom (setC c g x) 0 n m) i j = if i = x ∧ c x j = true then g x j else el m i j := by
  have H := foldFrom_inv (setC c g x) (fun y m' => Sq n m' ∧ ∀ i j, i < n → j < n → el m' i j = if i = x ∧ j < y ∧ c x j = true then g x j else el m i j) n 0 m ⟨h, fun i j _ _ => by simp⟩ (fun y m' _ hy hm => by
    obtain ⟨h1, h2⟩ := setC_sq hm.1 c g hx (show y < n by omega)
    refine ⟨h1, fun i j hi hj => ?_⟩
    rw [h2 i j hi hj, hm.2 i j hi hj]
    by_cases e1 : i = x
    · by_cases e2 : j = y
      · subst e2
        cases c x j <;> simp [e1]
      · by_cases e3 : j < y
        · simp [e1, e2, e3, show j < y + 1 by omega]
        · simp [e1, e2, e3, show ¬ j < y + 1 by omega]
    · simp [e1])
  simp only [Nat.zero_add] at H
  refine ⟨H.1, fun i j hi hj => ?_⟩
  rw [H.2 i j hi hj]
  simp [hj]
theorem fill_all {n : Nat} {m : List (List Int)} (h : Sq n m) (c : Nat → Nat → Bool) (g : Nat → Nat → Int) :
    foldFrom (fun x m => foldFrom (setC c g x) 0 n m) 0 n m = grid n (fun i j => if c i j = true then g i j else el m i j) := by
  have H := foldFrom_inv (fun x m => foldFrom (setC c g x) 0 n m) (fun x m' => Sq n m' ∧ ∀ i j, i < n → j < n → el m' i j = if i < x ∧ c i j = true then g i j else el m i j) n 0 m ⟨h, fun i j _ _ => by simp⟩ (fun x m' _ hx hm => by
    obtain ⟨h1, h2⟩ := fill_row hm.1 c g (show x < n by omega)
    refine ⟨h1, fun i j hi hj => ?_⟩
    rw [h2 i j hi hj, hm.2 i j hi hj]
    by_cases e1 : i = x
    · subst e1
      cases c i j <;> simp
    · by_cases e3 : i < x
      · simp [e1, e3, show i < x + 1 by omega]
      · simp [e1, e3, show ¬ i < x + 1 by omega])
  simp only [Nat.zero_add] at H
  refine grid_ext H.1.len H.1.rows fun i j hi hj => ?_
  rw [H.2 i j hi hj]
  simp [hi]
theorem grid_congr {n : Nat} {f g : Nat → Nat → Int} (h : ∀ x y, x < n → y < n → f x y = g x y) : grid n f = grid n g :=
  grid_ext (grid_len n f) (fun x hx => grid_row n f x hx) fun x y hx hy => by rw [grid_el n f x y hx hy, h x y hx hy]

theorem Sq.set {n : Nat} {m : List (List Int)} (h : Sq n m) {x y : Nat} {v : Int} (hx : x < n) (hy : y < n) : Sq n (m.set x ((m.getD x []).set y v)) :=
  (setC_sq h (fun _ _ => true) (fun _ _ => v) hx hy).1
theorem total_leMul (c : Nat) : ∀ m : List (List Int), (∀ i, i < m.length → (m.getD i []).length ≤ c) → total m ≤ m.length * c
  | [], _ => by simp [total]
  | r :: rs, h => by
    have h1 := h 0 (by simp)
    have h2 := total_leMul c rs fun i hi => by have := h (i + 1) (by simpa using hi); simpa using this
    simp only [total, List.map_cons, List.sum_cons, List.length_cons, List.getD_cons_zero] at *
    rw [Nat.succ_mul]; omega
/-! stars -/
/-! lines -/
/-! diameters and balls -/
theorem foldMax (g : Nat → Int) : ∀ k i s, foldFrom (fun i s => max s (g i)) i (k + 1) s = max s (foldFrom (fun i s => max s (g i)) (i + 1) k (g i))
  | 0, i, s => rfl
  | k + 1, i, s => by
    rw [foldFrom, foldMax g k (i + 1), foldMax g k (i + 1)]
    omega
end Go.Proofs.Ytcmhgkcifejgcaa
namespace Go.Proofs.Ytcmhgkcifejgcaa
set_option linter.unusedVariables false
set_option linter.unusedSimpArgs false

/-- A configuration of a metric of n points. -/
structure Cf (n : Nat) (a : List Int) : Prop where
  n1 : 1 ≤ a.length
  n3 : a.length ≤ 3
  el : ∀ i, i < a.length → 0 ≤ a.getD i 0 ∧ a.getD i 0 < n
  up : ∀ i, i + 1 < a.length → a.getD i 0 ≤ a.getD (i + 1) 0
theorem areBelow_iff (n : Int) (l : List Int) : F_impl_areBelow n l = true ↔ ∀ i, i < l.length → 0 ≤ l.getD i 0 ∧ l.getD i 0 < n := by
  unfold F_impl_areBelow
  rw [Bool.not_eq_true']
  refine ⟨fun h i hi => ?_, fun h => ?_⟩
  · have h2 : ¬ (∃ i, i < l.length ∧ F_impl_areBelow_1 (l.getD i 0) n = true) := fun hh => by rw [(contains_f _ _).2 hh] at h; cases h
    have h3 : ¬ F_impl_areBelow_1 (l.getD i 0) n = true := fun hh => h2 ⟨i, hi, hh⟩
    unfold F_impl_areBelow_1 at h3
    simp only [Bool.not_eq_true', Bool.and_eq_false_iff, decide_eq_false_iff_not] at h3
    omega
  · rw [Bool.eq_false_iff]
    intro hh
    obtain ⟨i, hi, hf⟩ := (contains_f _ _).1 hh
    have := h i hi
    unfold F_impl_areBelow_1 at hf
    simp only [Bool.not_eq_true', Bool.and_eq_false_iff, decide_eq_false_iff_not] at hf
    omega
theorem areBelow_t {n : Int} {l : List Int} (h : F_impl_areBelow n l = true) : ∀ i, i < l.length → 0 ≤ l.getD i 0 ∧ l.getD i 0 < n := (areBelow_iff n l).1 h
theorem isConfig_iff (m : List (List Int)) (a : List Int) : F_impl_Metric_isConfig m a = true ↔ Cf m.length a := by
  unfold F_impl_Metric_isConfig
  rw [Bool.and_eq_true, Bool.and_eq_true, Bool.and_eq_true, areBelow_iff, isSorted_iff, decide_eq_true_eq, decide_eq_true_eq]
  constructor
  · rintro ⟨⟨⟨h0, h1⟩, h2⟩, h3⟩; exact ⟨by omega, by omega, h2, h3⟩
  · rintro ⟨h0, h1, h2, h3⟩; exact ⟨⟨⟨by omega, by omega⟩, h2⟩, h3⟩
theorem isConfig_t {m : List (List Int)} {a : List Int} (h : F_impl_Metric_isConfig m a = true) : Cf m.length a := (isConfig_iff m a).1 h
theorem l6List_iff (n : Int) (l : List Int) : F_spec_l6List n l = true ↔ ∀ i, i < l.length → 0 ≤ l.getD i 0 ∧ l.getD i 0 < n := by
  unfold F_spec_l6List
  rcases scan (F_spec_l6List_L1 n l) l.length (fun i => !(decide (0 ≤ l.getD i 0) && decide (l.getD i 0 ≤ n - 1))) (fun _ => false) (fun m i => F_spec_l6List_L1_s n l i m) (l.length - 0 + 1) 0 (by omega) with ⟨h1, h2⟩ | ⟨j, _, h2, h3, h4, _⟩
  · rw [h1]
    simp only [Ctl.elim, true_iff]
    intro i hi
    have := h2 i (by omega) hi
    simp only [Bool.not_eq_false', Bool.and_eq_true, decide_eq_true_eq] at this
    omega
  · rw [h3]
    simp only [Ctl.elim, Bool.false_eq_true, false_iff]
    intro h
    have := h j h2
    simp only [Bool.not_eq_true', Bool.and_eq_false_iff, decide_eq_false_iff_not] at h4
    omega
theorem l6List_t {n : Int} {l : List Int} (h : F_spec_l6List n l = true) : ∀ i, i < l.length → 0 ≤ l.getD i 0 ∧ l.getD i 0 < n := (l6List_iff n l).1 h
theorem l6Config_iff (n : Nat) (a : List Int) : F_spec_l6Config (n : Int) a = true ↔ Cf n a := by
  unfold F_spec_l6Config
  rw [Bool.and_eq_true, Bool.and_eq_true, Bool.and_eq_true, l6List_iff, ascending_iff, decide_eq_true_eq, decide_eq_true_eq]
  constructor
  · rintro ⟨⟨⟨h0, h1⟩, h2⟩, h3⟩; exact ⟨by omega, by omega, h2, h3⟩
  · rintro ⟨h0, h1, h2, h3⟩; exact ⟨⟨⟨by omega, by omega⟩, h2⟩, h3⟩
theorem l6Config_t {n : Nat} {a : List Int} (h : F_spec_l6Config (n : Int) a = true) : Cf n a := (l6Config_iff n a).1 h
theorem config_eq (m : List (List Int)) (a : List Int) : F_impl_Metric_isConfig m a = F_spec_l6Config (m.length : Int) a := by
  rw [Bool.eq_iff_iff, isConfig_iff, l6Config_iff]
/-! tables like a line -/
theorem foldMax_ge (g : Nat → Int) : ∀ k i s, s ≤ foldFrom (fun i s => max s (g i)) i k s
  | 0, i, s => Int.le_refl _
  | k + 1, i, s => by rw [foldFrom]; have := foldMax_ge g k (i + 1) (max s (g i)); omega
end Go.Proofs.Ytcmhgkcifejgcaa
namespace Go.Proofs.Ytcmhgkcifejgcaa
set_option linter.unusedVariables false
set_option linter.unusedSimpArgs false

theorem index_L1 (s : List Int) (v : Int) : (∃ k, F_slices_Index_Sint_int_L1 s v (s.length - 0 + 1) 0 = .next k ∧ ∀ i, i < s.length → s.getD i 0 ≠ v) ∨
    ∃ i, i < s.length ∧ F_slices_Index_Sint_int_L1 s v (s.length - 0 + 1) 0 = .ret (i : Int) ∧ s.getD i 0 = v ∧ ∀ j, j < i → s.getD j 0 ≠ v := by
  rcases scan (F_slices_Index_Sint_int_L1 s v) s.length (fun i => decide (v = s.getD i 0)) (fun i => (i : Int)) (fun m i => F_slices_Index_Sint_int_L1_s s v i m) (s.length - 0 + 1) 0 (by omega) with ⟨h1, h2⟩ | ⟨j, _, h2, h3, h4, h5⟩
  · refine .inl ⟨_, h1, fun i hi he => ?_⟩
    have := h2 i (by omega) hi
    rw [decide_eq_false_iff_not] at this
    exact this he.symm
  · refine .inr ⟨j, h2, h3, (by rw [decide_eq_true_eq] at h4; exact h4.symm), fun k hk he => ?_⟩
    have := h5 k (by omega) hk
    rw [decide_eq_false_iff_not] at this
    exact this he.symm
/-- slices.Index: the first place, or -1. -/
theorem index_spec (s : List Int) (v : Int) : (F_slices_Index_Sint_int s v = -1 ∧ ∀ i, i < s.length → s.getD i 0 ≠ v) ∨
    ∃ i : Nat, i < s.length ∧ F_slices_Index_Sint_int s v = i ∧ s.getD i 0 = v ∧ ∀ j, j < i → s.getD j 0 ≠ v := by
  unfold F_slices_Index_Sint_int
  rcases index_L1 s v with ⟨k, h1, h2⟩ | ⟨i, h1, h2, h3, h4⟩
  · rw [h1]; exact .inl ⟨rfl, h2⟩
  · rw [h2]; exact .inr ⟨i, h1, rfl, h3, h4⟩
theorem contains_iff (s : List Int) (v : Int) : F_slices_Contains_Sint_int s v = true ↔ ∃ i, i < s.length ∧ s.getD i 0 = v := by
  unfold F_slices_Contains_Sint_int
  rw [decide_eq_true_eq]
  rcases index_spec s v with ⟨h1, h2⟩ | ⟨i, h1, h2, h3, _⟩
  · rw [h1]; exact ⟨fun h => by omega, fun ⟨i, hi, he⟩ => absurd he (h2 i hi)⟩
  · rw [h2]; exact ⟨fun _ => ⟨i, h1, h3⟩, fun _ => by omega⟩
theorem contains_eq (s : List Int) (v : Int) : F_slices_Contains_Sint_int s v = F_spec_l1Has s v := by
  rw [Bool.eq_iff_iff, contains_iff, l1Has_iff]

/-! orders -/
theorem push_len {n : Nat} {xs : List (List Int)} {r : List Int} (h : ∀ j, (xs.getD j []).length ≤ n) (hr : r.length ≤ n) : ∀ j, ((xs ++ [r]).getD j []).length ≤ n := by
  intro j
  have := h j
  simp only [List.getD_eq_getElem?_getD, List.getElem?_append] at *
  by_cases hj : j < xs.length
  · rw [if_pos hj]; exact this
  · rw [if_neg hj]
    by_cases h0 : j - xs.length = 0
    · rw [h0]; simpa using hr
    · rw [List.getElem?_eq_none (by simp; omega)]; simp
/-! matchings -/
/-- What an order costs. -/
def ordCost (m : List (List Int)) (a b : List Int) (r : List Int) : Int := foldFrom (fun j s => s + el m (a.getD j 0).toNat (b.getD (r.getD j 0).toNat 0).toNat) 0 a.length 0
theorem ordCost_le {m : List (List Int)} (hT : TabP false m) {a b : List Int} (ha : Cf m.length a) (hb : Cf m.length b) (hl : a.length = b.length) (r : List Int) (hr : ∀ j, j < a.length → 0 ≤ r.getD j 0 ∧ r.getD j 0 < a.length) :
    0 ≤ ordCost m a b r ∧ ordCost m a b r ≤ 297 := by
  have h := foldFrom_inv (fun j s => s + el m (a.getD j 0).toNat (b.getD (r.getD j 0).toNat 0).toNat) (fun j s => 0 ≤ s ∧ s ≤ 99 * (j : Int)) a.length 0 0 (by omega) (fun j s _ hj hs => by
    have h1 := ha.el j (by omega)
    have h2 := hr j (by omega)
    have h3 := hb.el (r.getD j 0).toNat (by omega)
    have h4 := hT.ok (a.getD j 0).toNat (b.getD (r.getD j 0).toNat 0).toNat (by omega) (by omega)
    have h5 : 0 ≤ el m (a.getD j 0).toNat (b.getD (r.getD j 0).toNat 0).toNat ∧ el m (a.getD j 0).toNat (b.getD (r.getD j 0).toNat 0).toNat ≤ 99 := by
      by_cases e : (a.getD j 0).toNat = (b.getD (r.getD j 0).toNat 0).toNat
      · rw [h4.2.1 e]; omega
      · rcases h4.2.2 e with h | ⟨h, _⟩
        · omega
        · cases h
    omega)
  have := ha.n3
  unfold ordCost
  omega
theorem markMetric_fst (a : List (List Int)) (k : Int) : (F_laws_markMetric a k).1 = k + total a := by rw [markMetric_eq]
end Go.Proofs.Ytcmhgkcifejgcaa
namespace Go.Proofs.Ytcmhgkcifejgcaa
set_option linter.unusedVariables false
set_option linter.unusedSimpArgs false
open Go Go.RowKit
set_option linter.unusedVariables false

theorem slT_34 : SlT Try.prog 34 3 (.int .i64 0) 1 8 := ⟨Try.underlying34, by kernel_rfl, rfl, by decide⟩
theorem slT_49 : SlT Try.prog 49 34 (.slice none 0 0) 1 24 := ⟨Try.underlying49, by kernel_rfl, rfl, by decide⟩
theorem slT_26 : SlT Try.prog 26 9 (.string ByteArray.empty) 1 16 := ⟨Try.underlying26, by kernel_rfl, rfl, by decide⟩
theorem slT_22 : SlT Try.prog 22 5 (.int .u8 0) 1 1 := ⟨Try.underlying22, by kernel_rfl, rfl, by decide⟩
theorem slT_143 : SlT Try.prog 143 4 (.bool false) 1 1 := ⟨Try.underlying143, by kernel_rfl, rfl, by decide⟩
theorem one_3 : One Try.prog 3 := ⟨fun _ => by kernel_rfl, by kernel_rfl⟩
theorem one_4 : One Try.prog 4 := ⟨fun _ => by kernel_rfl, by kernel_rfl⟩
theorem one_9 : One Try.prog 9 := ⟨fun _ => by kernel_rfl, by kernel_rfl⟩
theorem one_5 : One Try.prog 5 := ⟨fun _ => by kernel_rfl, by kernel_rfl⟩
theorem one_34 : One Try.prog 34 := ⟨fun _ => by kernel_rfl, by kernel_rfl⟩
theorem one_49 : One Try.prog 49 := ⟨fun _ => by kernel_rfl, by kernel_rfl⟩
theorem one_26 : One Try.prog 26 := ⟨fun _ => by kernel_rfl, by kernel_rfl⟩
theorem one_22 : One Try.prog 22 := ⟨fun _ => by kernel_rfl, by kernel_rfl⟩
theorem one_73 : One Try.prog 73 := ⟨fun _ => by kernel_rfl, by kernel_rfl⟩
theorem fa_55_0 (b : Nat) (w : World) : (Instr.fieldAt 55 (.pointer (some ⟨b, 0, none⟩)) 0).run Try.prog w = .ok (.pointer (some ⟨b, 0, none⟩)) w := by kernel_rfl
theorem agg_55 : AggT Try.prog 55 1 := ⟨.inl ⟨_, Try.underlying55⟩, by kernel_rfl⟩
theorem bd_55_0 (w : World) : (Instr.build 55 #[]).run Try.prog w = .ok (.agg #[.slice none 0 0]) w := by kernel_rfl
theorem bd_55_1 (A : Option Addr) (n c : Nat) (w : World) : (Instr.build 55 #[(0, .slice A n c)]).run Try.prog w = .ok (.agg #[.slice A n c]) w := by kernel_rfl
theorem fd_55_0 (v : Value) (w : World) : (Instr.field 55 (.agg #[v]) 0).run Try.prog w = .ok v w := by kernel_rfl
theorem fa_51_0 (b : Nat) (w : World) : (Instr.fieldAt 51 (.pointer (some ⟨b, 0, none⟩)) 0).run Try.prog w = .ok (.pointer (some ⟨b, 0, none⟩)) w := by kernel_rfl
theorem agg_51 : AggT Try.prog 51 1 := ⟨.inl ⟨_, Try.underlying51⟩, by kernel_rfl⟩
theorem bd_51_0 (w : World) : (Instr.build 51 #[]).run Try.prog w = .ok (.agg #[.slice none 0 0]) w := by kernel_rfl
theorem bd_51_1 (A : Option Addr) (n c : Nat) (w : World) : (Instr.build 51 #[(0, .slice A n c)]).run Try.prog w = .ok (.agg #[.slice A n c]) w := by kernel_rfl
theorem fd_51_0 (v : Value) (w : World) : (Instr.field 51 (.agg #[v]) 0).run Try.prog w = .ok v w := by kernel_rfl
theorem en_2 : En Try.prog 2 := en_of Try.func2 (by kernel_rfl) (by kernel_rfl)
theorem en_3 : En Try.prog 3 := en_of Try.func3 (by kernel_rfl) (by kernel_rfl)
theorem en_4 : En Try.prog 4 := en_of Try.func4 (by kernel_rfl) (by kernel_rfl)
theorem en_5 : En Try.prog 5 := en_of Try.func5 (by kernel_rfl) (by kernel_rfl)
theorem en_6 : En Try.prog 6 := en_of Try.func6 (by kernel_rfl) (by kernel_rfl)
theorem en_7 : En Try.prog 7 := en_of Try.func7 (by kernel_rfl) (by kernel_rfl)
theorem en_8 : En Try.prog 8 := en_of Try.func8 (by kernel_rfl) (by kernel_rfl)
theorem en_9 : En Try.prog 9 := en_of Try.func9 (by kernel_rfl) (by kernel_rfl)
theorem en_10 : En Try.prog 10 := en_of Try.func10 (by kernel_rfl) (by kernel_rfl)
theorem en_11 : En Try.prog 11 := en_of Try.func11 (by kernel_rfl) (by kernel_rfl)
theorem en_12 : En Try.prog 12 := en_of Try.func12 (by kernel_rfl) (by kernel_rfl)
theorem en_13 : En Try.prog 13 := en_of Try.func13 (by kernel_rfl) (by kernel_rfl)
theorem en_14 : En Try.prog 14 := en_of Try.func14 (by kernel_rfl) (by kernel_rfl)
theorem en_15 : En Try.prog 15 := en_of Try.func15 (by kernel_rfl) (by kernel_rfl)
theorem en_16 : En Try.prog 16 := en_of Try.func16 (by kernel_rfl) (by kernel_rfl)
theorem en_17 : En Try.prog 17 := en_of Try.func17 (by kernel_rfl) (by kernel_rfl)
theorem en_18 : En Try.prog 18 := en_of Try.func18 (by kernel_rfl) (by kernel_rfl)
theorem en_19 : En Try.prog 19 := en_of Try.func19 (by kernel_rfl) (by kernel_rfl)
theorem en_20 : En Try.prog 20 := en_of Try.func20 (by kernel_rfl) (by kernel_rfl)
theorem en_21 : En Try.prog 21 := en_of Try.func21 (by kernel_rfl) (by kernel_rfl)
theorem en_22 : En Try.prog 22 := en_of Try.func22 (by kernel_rfl) (by kernel_rfl)
theorem en_23 : En Try.prog 23 := en_of Try.func23 (by kernel_rfl) (by kernel_rfl)
theorem en_24 : En Try.prog 24 := en_of Try.func24 (by kernel_rfl) (by kernel_rfl)
theorem en_25 : En Try.prog 25 := en_of Try.func25 (by kernel_rfl) (by kernel_rfl)
theorem en_26 : En Try.prog 26 := en_of Try.func26 (by kernel_rfl) (by kernel_rfl)
theorem en_27 : En Try.prog 27 := en_of Try.func27 (by kernel_rfl) (by kernel_rfl)
theorem en_28 : En Try.prog 28 := en_of Try.func28 (by kernel_rfl) (by kernel_rfl)
theorem en_29 : En Try.prog 29 := en_of Try.func29 (by kernel_rfl) (by kernel_rfl)
theorem en_30 : En Try.prog 30 := en_of Try.func30 (by kernel_rfl) (by kernel_rfl)
theorem en_31 : En Try.prog 31 := en_of Try.func31 (by kernel_rfl) (by kernel_rfl)
theorem en_32 : En Try.prog 32 := en_of Try.func32 (by kernel_rfl) (by kernel_rfl)
theorem en_33 : En Try.prog 33 := en_of Try.func33 (by kernel_rfl) (by kernel_rfl)
theorem en_34 : En Try.prog 34 := en_of Try.func34 (by kernel_rfl) (by kernel_rfl)
theorem en_35 : En Try.prog 35 := en_of Try.func35 (by kernel_rfl) (by kernel_rfl)
theorem en_36 : En Try.prog 36 := en_of Try.func36 (by kernel_rfl) (by kernel_rfl)
theorem en_37 : En Try.prog 37 := en_of Try.func37 (by kernel_rfl) (by kernel_rfl)
theorem en_38 : En Try.prog 38 := en_of Try.func38 (by kernel_rfl) (by kernel_rfl)
theorem en_39 : En Try.prog 39 := en_of Try.func39 (by kernel_rfl) (by kernel_rfl)
theorem en_40 : En Try.prog 40 := en_of Try.func40 (by kernel_rfl) (by kernel_rfl)
theorem en_41 : En Try.prog 41 := en_of Try.func41 (by kernel_rfl) (by kernel_rfl)
theorem en_42 : En Try.prog 42 := en_of Try.func42 (by kernel_rfl) (by kernel_rfl)
theorem en_43 : En Try.prog 43 := en_of Try.func43 (by kernel_rfl) (by kernel_rfl)
theorem en_44 : En Try.prog 44 := en_of Try.func44 (by kernel_rfl) (by kernel_rfl)
theorem en_45 : En Try.prog 45 := en_of Try.func45 (by kernel_rfl) (by kernel_rfl)
theorem en_46 : En Try.prog 46 := en_of Try.func46 (by kernel_rfl) (by kernel_rfl)
theorem en_47 : En Try.prog 47 := en_of Try.func47 (by kernel_rfl) (by kernel_rfl)
theorem en_48 : En Try.prog 48 := en_of Try.func48 (by kernel_rfl) (by kernel_rfl)
theorem en_49 : En Try.prog 49 := en_of Try.func49 (by kernel_rfl) (by kernel_rfl)
theorem en_50 : En Try.prog 50 := en_of Try.func50 (by kernel_rfl) (by kernel_rfl)
theorem en_51 : En Try.prog 51 := en_of Try.func51 (by kernel_rfl) (by kernel_rfl)
theorem en_52 : En Try.prog 52 := en_of Try.func52 (by kernel_rfl) (by kernel_rfl)
theorem en_53 : En Try.prog 53 := en_of Try.func53 (by kernel_rfl) (by kernel_rfl)
theorem en_54 : En Try.prog 54 := en_of Try.func54 (by kernel_rfl) (by kernel_rfl)
theorem en_55 : En Try.prog 55 := en_of Try.func55 (by kernel_rfl) (by kernel_rfl)
theorem en_56 : En Try.prog 56 := en_of Try.func56 (by kernel_rfl) (by kernel_rfl)
theorem en_57 : En Try.prog 57 := en_of Try.func57 (by kernel_rfl) (by kernel_rfl)
theorem en_58 : En Try.prog 58 := en_of Try.func58 (by kernel_rfl) (by kernel_rfl)
theorem en_59 : En Try.prog 59 := en_of Try.func59 (by kernel_rfl) (by kernel_rfl)
theorem en_60 : En Try.prog 60 := en_of Try.func60 (by kernel_rfl) (by kernel_rfl)
theorem en_61 : En Try.prog 61 := en_of Try.func61 (by kernel_rfl) (by kernel_rfl)
theorem en_62 : En Try.prog 62 := en_of Try.func62 (by kernel_rfl) (by kernel_rfl)
theorem en_63 : En Try.prog 63 := en_of Try.func63 (by kernel_rfl) (by kernel_rfl)
theorem en_64 : En Try.prog 64 := en_of Try.func64 (by kernel_rfl) (by kernel_rfl)
theorem en_65 : En Try.prog 65 := en_of Try.func65 (by kernel_rfl) (by kernel_rfl)
theorem en_66 : En Try.prog 66 := en_of Try.func66 (by kernel_rfl) (by kernel_rfl)
theorem en_67 : En Try.prog 67 := en_of Try.func67 (by kernel_rfl) (by kernel_rfl)
theorem en_68 : En Try.prog 68 := en_of Try.func68 (by kernel_rfl) (by kernel_rfl)
theorem en_69 : En Try.prog 69 := en_of Try.func69 (by kernel_rfl) (by kernel_rfl)
theorem en_70 : En Try.prog 70 := en_of Try.func70 (by kernel_rfl) (by kernel_rfl)
theorem en_71 : En Try.prog 71 := en_of Try.func71 (by kernel_rfl) (by kernel_rfl)
theorem en_72 : En Try.prog 72 := en_of Try.func72 (by kernel_rfl) (by kernel_rfl)
theorem en_73 : En Try.prog 73 := en_of Try.func73 (by kernel_rfl) (by kernel_rfl)
theorem en_74 : En Try.prog 74 := en_of Try.func74 (by kernel_rfl) (by kernel_rfl)
theorem en_75 : En Try.prog 75 := en_of Try.func75 (by kernel_rfl) (by kernel_rfl)
theorem en_76 : En Try.prog 76 := en_of Try.func76 (by kernel_rfl) (by kernel_rfl)
theorem en_77 : En Try.prog 77 := en_of Try.func77 (by kernel_rfl) (by kernel_rfl)
theorem en_78 : En Try.prog 78 := en_of Try.func78 (by kernel_rfl) (by kernel_rfl)
theorem en_79 : En Try.prog 79 := en_of Try.func79 (by kernel_rfl) (by kernel_rfl)
theorem en_80 : En Try.prog 80 := en_of Try.func80 (by kernel_rfl) (by kernel_rfl)
theorem en_81 : En Try.prog 81 := en_of Try.func81 (by kernel_rfl) (by kernel_rfl)
theorem en_82 : En Try.prog 82 := en_of Try.func82 (by kernel_rfl) (by kernel_rfl)
theorem en_83 : En Try.prog 83 := en_of Try.func83 (by kernel_rfl) (by kernel_rfl)
theorem en_84 : En Try.prog 84 := en_of Try.func84 (by kernel_rfl) (by kernel_rfl)
theorem en_85 : En Try.prog 85 := en_of Try.func85 (by kernel_rfl) (by kernel_rfl)
theorem en_86 : En Try.prog 86 := en_of Try.func86 (by kernel_rfl) (by kernel_rfl)
theorem en_87 : En Try.prog 87 := en_of Try.func87 (by kernel_rfl) (by kernel_rfl)
theorem en_88 : En Try.prog 88 := en_of Try.func88 (by kernel_rfl) (by kernel_rfl)
theorem en_89 : En Try.prog 89 := en_of Try.func89 (by kernel_rfl) (by kernel_rfl)
theorem en_90 : En Try.prog 90 := en_of Try.func90 (by kernel_rfl) (by kernel_rfl)
theorem en_91 : En Try.prog 91 := en_of Try.func91 (by kernel_rfl) (by kernel_rfl)
theorem en_92 : En Try.prog 92 := en_of Try.func92 (by kernel_rfl) (by kernel_rfl)
theorem en_93 : En Try.prog 93 := en_of Try.func93 (by kernel_rfl) (by kernel_rfl)
theorem en_94 : En Try.prog 94 := en_of Try.func94 (by kernel_rfl) (by kernel_rfl)
theorem en_95 : En Try.prog 95 := en_of Try.func95 (by kernel_rfl) (by kernel_rfl)
theorem en_96 : En Try.prog 96 := en_of Try.func96 (by kernel_rfl) (by kernel_rfl)
theorem en_97 : En Try.prog 97 := en_of Try.func97 (by kernel_rfl) (by kernel_rfl)
theorem en_98 : En Try.prog 98 := en_of Try.func98 (by kernel_rfl) (by kernel_rfl)
theorem en_99 : En Try.prog 99 := en_of Try.func99 (by kernel_rfl) (by kernel_rfl)
theorem en_100 : En Try.prog 100 := en_of Try.func100 (by kernel_rfl) (by kernel_rfl)
theorem en_101 : En Try.prog 101 := en_of Try.func101 (by kernel_rfl) (by kernel_rfl)
theorem en_102 : En Try.prog 102 := en_of Try.func102 (by kernel_rfl) (by kernel_rfl)
theorem en_103 : En Try.prog 103 := en_of Try.func103 (by kernel_rfl) (by kernel_rfl)
theorem en_104 : En Try.prog 104 := en_of Try.func104 (by kernel_rfl) (by kernel_rfl)
theorem en_105 : En Try.prog 105 := en_of Try.func105 (by kernel_rfl) (by kernel_rfl)
theorem en_106 : En Try.prog 106 := en_of Try.func106 (by kernel_rfl) (by kernel_rfl)
theorem en_107 : En Try.prog 107 := en_of Try.func107 (by kernel_rfl) (by kernel_rfl)
theorem en_108 : En Try.prog 108 := en_of Try.func108 (by kernel_rfl) (by kernel_rfl)
theorem en_109 : En Try.prog 109 := en_of Try.func109 (by kernel_rfl) (by kernel_rfl)
theorem en_110 : En Try.prog 110 := en_of Try.func110 (by kernel_rfl) (by kernel_rfl)
theorem en_111 : En Try.prog 111 := en_of Try.func111 (by kernel_rfl) (by kernel_rfl)
theorem en_112 : En Try.prog 112 := en_of Try.func112 (by kernel_rfl) (by kernel_rfl)
theorem en_113 : En Try.prog 113 := en_of Try.func113 (by kernel_rfl) (by kernel_rfl)
theorem en_114 : En Try.prog 114 := en_of Try.func114 (by kernel_rfl) (by kernel_rfl)
theorem en_115 : En Try.prog 115 := en_of Try.func115 (by kernel_rfl) (by kernel_rfl)
theorem en_116 : En Try.prog 116 := en_of Try.func116 (by kernel_rfl) (by kernel_rfl)
theorem en_117 : En Try.prog 117 := en_of Try.func117 (by kernel_rfl) (by kernel_rfl)
theorem en_118 : En Try.prog 118 := en_of Try.func118 (by kernel_rfl) (by kernel_rfl)
theorem en_119 : En Try.prog 119 := en_of Try.func119 (by kernel_rfl) (by kernel_rfl)
theorem en_120 : En Try.prog 120 := en_of Try.func120 (by kernel_rfl) (by kernel_rfl)
theorem en_121 : En Try.prog 121 := en_of Try.func121 (by kernel_rfl) (by kernel_rfl)
theorem en_122 : En Try.prog 122 := en_of Try.func122 (by kernel_rfl) (by kernel_rfl)
theorem en_123 : En Try.prog 123 := en_of Try.func123 (by kernel_rfl) (by kernel_rfl)
theorem en_124 : En Try.prog 124 := en_of Try.func124 (by kernel_rfl) (by kernel_rfl)
theorem en_125 : En Try.prog 125 := en_of Try.func125 (by kernel_rfl) (by kernel_rfl)
theorem en_126 : En Try.prog 126 := en_of Try.func126 (by kernel_rfl) (by kernel_rfl)
theorem en_127 : En Try.prog 127 := en_of Try.func127 (by kernel_rfl) (by kernel_rfl)
theorem en_128 : En Try.prog 128 := en_of Try.func128 (by kernel_rfl) (by kernel_rfl)
theorem en_129 : En Try.prog 129 := en_of Try.func129 (by kernel_rfl) (by kernel_rfl)
theorem en_130 : En Try.prog 130 := en_of Try.func130 (by kernel_rfl) (by kernel_rfl)
theorem en_131 : En Try.prog 131 := en_of Try.func131 (by kernel_rfl) (by kernel_rfl)
theorem en_132 : En Try.prog 132 := en_of Try.func132 (by kernel_rfl) (by kernel_rfl)
theorem en_133 : En Try.prog 133 := en_of Try.func133 (by kernel_rfl) (by kernel_rfl)
theorem en_134 : En Try.prog 134 := en_of Try.func134 (by kernel_rfl) (by kernel_rfl)
theorem en_135 : En Try.prog 135 := en_of Try.func135 (by kernel_rfl) (by kernel_rfl)
theorem en_136 : En Try.prog 136 := en_of Try.func136 (by kernel_rfl) (by kernel_rfl)
theorem en_137 : En Try.prog 137 := en_of Try.func137 (by kernel_rfl) (by kernel_rfl)
theorem en_138 : En Try.prog 138 := en_of Try.func138 (by kernel_rfl) (by kernel_rfl)
theorem en_139 : En Try.prog 139 := en_of Try.func139 (by kernel_rfl) (by kernel_rfl)
theorem en_140 : En Try.prog 140 := en_of Try.func140 (by kernel_rfl) (by kernel_rfl)
theorem en_141 : En Try.prog 141 := en_of Try.func141 (by kernel_rfl) (by kernel_rfl)
theorem en_142 : En Try.prog 142 := en_of Try.func142 (by kernel_rfl) (by kernel_rfl)
theorem en_143 : En Try.prog 143 := en_of Try.func143 (by kernel_rfl) (by kernel_rfl)
theorem en_144 : En Try.prog 144 := en_of Try.func144 (by kernel_rfl) (by kernel_rfl)
theorem en_145 : En Try.prog 145 := en_of Try.func145 (by kernel_rfl) (by kernel_rfl)
theorem en_146 : En Try.prog 146 := en_of Try.func146 (by kernel_rfl) (by kernel_rfl)
theorem en_147 : En Try.prog 147 := en_of Try.func147 (by kernel_rfl) (by kernel_rfl)
theorem en_148 : En Try.prog 148 := en_of Try.func148 (by kernel_rfl) (by kernel_rfl)
theorem en_149 : En Try.prog 149 := en_of Try.func149 (by kernel_rfl) (by kernel_rfl)
theorem en_150 : En Try.prog 150 := en_of Try.func150 (by kernel_rfl) (by kernel_rfl)
theorem en_151 : En Try.prog 151 := en_of Try.func151 (by kernel_rfl) (by kernel_rfl)
theorem en_153 : En Try.prog 153 := en_of Try.func153 (by kernel_rfl) (by kernel_rfl)
theorem en_154 : En Try.prog 154 := en_of Try.func154 (by kernel_rfl) (by kernel_rfl)
theorem en_155 : En Try.prog 155 := en_of Try.func155 (by kernel_rfl) (by kernel_rfl)
theorem en_156 : En Try.prog 156 := en_of Try.func156 (by kernel_rfl) (by kernel_rfl)
theorem en_157 : En Try.prog 157 := en_of Try.func157 (by kernel_rfl) (by kernel_rfl)
theorem en_158 : En Try.prog 158 := en_of Try.func158 (by kernel_rfl) (by kernel_rfl)
theorem en_159 : En Try.prog 159 := en_of Try.func159 (by kernel_rfl) (by kernel_rfl)
theorem en_160 : En Try.prog 160 := en_of Try.func160 (by kernel_rfl) (by kernel_rfl)
theorem en_161 : En Try.prog 161 := en_of Try.func161 (by kernel_rfl) (by kernel_rfl)
theorem en_162 : En Try.prog 162 := en_of Try.func162 (by kernel_rfl) (by kernel_rfl)
theorem en_163 : En Try.prog 163 := en_of Try.func163 (by kernel_rfl) (by kernel_rfl)
theorem en_164 : En Try.prog 164 := en_of Try.func164 (by kernel_rfl) (by kernel_rfl)
theorem en_165 : En Try.prog 165 := en_of Try.func165 (by kernel_rfl) (by kernel_rfl)
theorem en_166 : En Try.prog 166 := en_of Try.func166 (by kernel_rfl) (by kernel_rfl)
theorem en_167 : En Try.prog 167 := en_of Try.func167 (by kernel_rfl) (by kernel_rfl)
theorem en_168 : En Try.prog 168 := en_of Try.func168 (by kernel_rfl) (by kernel_rfl)
theorem en_169 : En Try.prog 169 := en_of Try.func169 (by kernel_rfl) (by kernel_rfl)
theorem en_170 : En Try.prog 170 := en_of Try.func170 (by kernel_rfl) (by kernel_rfl)
theorem en_171 : En Try.prog 171 := en_of Try.func171 (by kernel_rfl) (by kernel_rfl)
theorem en_174 : En Try.prog 174 := en_of Try.func174 (by kernel_rfl) (by kernel_rfl)
theorem en_175 : En Try.prog 175 := en_of Try.func175 (by kernel_rfl) (by kernel_rfl)
theorem en_176 : En Try.prog 176 := en_of Try.func176 (by kernel_rfl) (by kernel_rfl)
theorem en_177 : En Try.prog 177 := en_of Try.func177 (by kernel_rfl) (by kernel_rfl)
theorem en_178 : En Try.prog 178 := en_of Try.func178 (by kernel_rfl) (by kernel_rfl)
theorem en_179 : En Try.prog 179 := en_of Try.func179 (by kernel_rfl) (by kernel_rfl)
theorem en_180 : En Try.prog 180 := en_of Try.func180 (by kernel_rfl) (by kernel_rfl)
theorem en_181 : En Try.prog 181 := en_of Try.func181 (by kernel_rfl) (by kernel_rfl)
theorem en_182 : En Try.prog 182 := en_of Try.func182 (by kernel_rfl) (by kernel_rfl)
theorem en_183 : En Try.prog 183 := en_of Try.func183 (by kernel_rfl) (by kernel_rfl)
theorem en_184 : En Try.prog 184 := en_of Try.func184 (by kernel_rfl) (by kernel_rfl)
theorem en_185 : En Try.prog 185 := en_of Try.func185 (by kernel_rfl) (by kernel_rfl)
theorem en_186 : En Try.prog 186 := en_of Try.func186 (by kernel_rfl) (by kernel_rfl)
theorem en_187 : En Try.prog 187 := en_of Try.func187 (by kernel_rfl) (by kernel_rfl)
theorem en_188 : En Try.prog 188 := en_of Try.func188 (by kernel_rfl) (by kernel_rfl)
theorem en_189 : En Try.prog 189 := en_of Try.func189 (by kernel_rfl) (by kernel_rfl)
theorem en_190 : En Try.prog 190 := en_of Try.func190 (by kernel_rfl) (by kernel_rfl)
theorem en_191 : En Try.prog 191 := en_of Try.func191 (by kernel_rfl) (by kernel_rfl)
theorem en_192 : En Try.prog 192 := en_of Try.func192 (by kernel_rfl) (by kernel_rfl)
theorem en_193 : En Try.prog 193 := en_of Try.func193 (by kernel_rfl) (by kernel_rfl)
theorem en_194 : En Try.prog 194 := en_of Try.func194 (by kernel_rfl) (by kernel_rfl)
theorem en_195 : En Try.prog 195 := en_of Try.func195 (by kernel_rfl) (by kernel_rfl)
theorem en_196 : En Try.prog 196 := en_of Try.func196 (by kernel_rfl) (by kernel_rfl)
theorem en_197 : En Try.prog 197 := en_of Try.func197 (by kernel_rfl) (by kernel_rfl)

end Go.Proofs.Ytcmhgkcifejgcaa
