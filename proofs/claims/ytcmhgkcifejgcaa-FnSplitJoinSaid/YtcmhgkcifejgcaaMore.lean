/-
  More rules of the walk: calls that own what they hand back, stores, tables, small operations; what a loop hands on. No condition.
-/
import Derived.Laws.Cover3
import Derived.Test.YtcmhgkcifejgcaaMem
import Derived.Test.YtcmhgkcifejgcaaTail
namespace Go.Proofs.Ytcmhgkcifejgcaa
open Go Go.RowKit

/-- What a loop of a plain function comes to: it goes on behind it, or it has returned. -/
inductive Ctl (S R : Type) where
  | next (s : S)
  | ret (r : R)
instance {S R : Type} [Inhabited R] : Inhabited (Ctl S R) := ⟨.ret default⟩
def Ctl.elim {S R T : Type} (c : Ctl S R) (f : S → T) (g : R → T) : T := match c with
  | .next s => f s
  | .ret r => g r
theorem elim_next {S R T : Type} (s : S) (f : S → T) (g : R → T) : (Ctl.next s : Ctl S R).elim f g = f s := rfl
theorem elim_ret {S R T : Type} (r : R) (f : S → T) (g : R → T) : (Ctl.ret r : Ctl S R).elim f g = g r := rfl
theorem bif_t {α : Type} (a b : α) : cond true a b = a := rfl
theorem bif_f {α : Type} (a b : α) : cond false a b = b := rfl
theorem bif_pos {α : Type} {c : Bool} (h : c = true) (a b : α) : cond c a b = a := by subst h; rfl
theorem bif_neg {α : Type} {c : Bool} (h : c = false) (a b : α) : cond c a b = b := by subst h; rfl
theorem and_l {a b : Bool} (h : (a && b) = true) : a = true := by cases a <;> simp_all
theorem gand {a b : Bool} (h1 : a = true) (h2 : b = true) : (a && b) = true := by simp [h1, h2]
theorem not_t {a : Bool} (h : (!a) = true) : a = false := by cases a <;> simp_all
theorem not_f {a : Bool} (h : (!a) = false) : a = true := by cases a <;> simp_all
theorem or_t {a b : Bool} (h : (a || b) = true) : a = true ∨ b = true := by cases a <;> simp_all
theorem or_f {a b : Bool} (h : (a || b) = false) : a = false ∧ b = false := by cases a <;> simp_all
theorem and_t {a b : Bool} (h : (a && b) = true) : a = true ∧ b = true := by cases a <;> simp_all
theorem and_f {a b : Bool} (h : (a && b) = false) : a = false ∨ b = false := by cases a <;> simp_all
theorem and_imp {a b c d : Prop} (h : a ∧ b) (f : a → c) (g : b → d) : c ∧ d := ⟨f h.1, g h.2⟩
theorem arg_len {v : Value} {w : World} {xs : List Int} (h : RI w v xs) : xs.length ≤ 9223372036854775807 := h.2.1
theorem argT_len {v : Value} {w : World} {us : List Value} {xss : List (List Int)} (h : RII w v us xss) : xss.length ≤ 9223372036854775807 := h.1.2.1

section
variable {P : Program} {ops : Array Oper} {Q : Exit → Act → World → Prop} {N : Nat} {C : World → Prop} {rest : List Oper} {l : Sl} {v : Value} {d : Nat}
variable {dd : Option Tmp} {ty : TypeId} {ps : String} {af : Array Edge} {g : Option (Nat × Bool)} {x y : Operand} {t t' e e' : TypeId} {z : Value} {sz bytes n m : Nat} {xs ys : List Value}
variable {w0 : World} {os : List Ck} {k : FuncId} {ars : List Operand} {vs : List Value} {ats : Array TypeId}

theorem TL.callr {ι : Type} (ret : ι → Value) (rs : ι → List Ck) (he : En P k) (hv : Evs l ars vs) (hb : Nat.blt d N = true)
    (hc : ∀ w, Hp w0 os w → Calls P k vs.toArray w (fun e w' => ∃ i, e = .returned (ret i) ∧ Hp w (rs i) w')) (h : ∀ i, TL P ops Q N (Hp w0 (rs i ++ os)) rest ((d, ret i) :: l)) :
    TL P ops Q N (Hp w0 os) (⟨some d, .call { callee := .value (.func k), args := ars.toArray, argTypes := ats }, ty, ps, af, none⟩ :: rest) l :=
  TL.call (D := fun v w' => ∃ i, v = ret i ∧ Hp w0 (rs i ++ os) w') he hv hb (fun w hw => (hc w hw).mono fun _ _ ⟨i, h1, h2⟩ => ⟨_, h1, i, rfl, hw.after h2⟩)
    (fun v a w hs ⟨i, h1, h2⟩ => by subst h1; exact h i a w hs h2)
theorem TL.callrv {ι : Type} (ret : ι → Value) (rs : ι → List Ck) {f : Nat} {cap : List Value} (he : En P k) (hf : Ev l (.tmp f) (.func (.func k) #[] cap.toArray)) (hv : Evs l ars vs) (hb : Nat.blt d N = true)
    (hc : ∀ w, Hp w0 os w → Calls P k (vs ++ cap).toArray w (fun e w' => ∃ i, e = .returned (ret i) ∧ Hp w (rs i) w')) (h : ∀ i, TL P ops Q N (Hp w0 (rs i ++ os)) rest ((d, ret i) :: l)) :
    TL P ops Q N (Hp w0 os) (⟨some d, .call { callee := .value (.tmp f), args := ars.toArray, argTypes := ats }, ty, ps, af, none⟩ :: rest) l :=
  TL.callv (D := fun v w' => ∃ i, v = ret i ∧ Hp w0 (rs i ++ os) w') he hf hv hb (fun w hw => (hc w hw).mono fun _ _ ⟨i, h1, h2⟩ => ⟨_, h1, i, rfl, hw.after h2⟩)
    (fun v a w hs ⟨i, h1, h2⟩ => by subst h1; exact h i a w hs h2)
/-- A call that writes into a chunk: its contract holds over whatever else is owned. -/
theorem TL.callm {ι : Type} (i : Nat) {c : Ck} (ret : ι → Value) (c' : ι → Ck) (he : En P k) (hv : Evs l ars vs) (hb : Nat.blt d N = true) (ho : os[i]? = some c)
    (hc : ∀ w fr, Hp w0 (c :: fr) w → Calls P k vs.toArray w (fun e w' => ∃ j, e = .returned (ret j) ∧ Hp w0 (c' j :: fr) w')) (h : ∀ j, TL P ops Q N (Hp w0 (os.set i (c' j))) rest ((d, ret j) :: l)) :
    TL P ops Q N (Hp w0 os) (⟨some d, .call { callee := .value (.func k), args := ars.toArray, argTypes := ats }, ty, ps, af, none⟩ :: rest) l := by
  obtain ⟨hlt, hget⟩ := List.getElem?_eq_some_iff.1 ho
  have p1 : (c :: os.eraseIdx i).Perm os := by
    rw [← hget]
    have h := List.perm_middle (a := os[i]) (l₁ := os.take i) (l₂ := os.drop (i + 1))
    have e1 : os.take i ++ os[i] :: os.drop (i + 1) = os := by rw [← List.drop_eq_getElem_cons hlt, List.take_append_drop]
    rw [e1] at h
    rw [List.eraseIdx_eq_take_drop_succ]
    exact h.symm
  have p2 : ∀ c', (os.set i c').Perm (c' :: os.eraseIdx i) := fun c' => by
    rw [List.set_eq_take_append_cons_drop, if_pos hlt, List.eraseIdx_eq_take_drop_succ]
    exact List.perm_middle
  exact TL.call (D := fun v w' => ∃ j, v = ret j ∧ Hp w0 (os.set i (c' j)) w') he hv hb (fun w hw => (hc w (os.eraseIdx i) (hw.perm p1)).mono fun _ _ ⟨j, h1, h2⟩ => ⟨_, h1, j, rfl, h2.perm (p2 _)⟩)
    (fun v a w hs ⟨i, h1, h2⟩ => by subst h1; exact h i a w hs h2)
theorem calls_tcm {f : FuncId} {fn : Func} {c : Code} {args : List Value} {w : World} {R : Ending → World → Prop} (hf : P.funcs[f]? = some fn) (hb : fn.body = some c) (hN : fn.ntmps = N)
    (ha : Nat.ble args.length N = true) (hw : C w) (h : TC P c (bodyPost P fn R) N C (nums 0 args)) : Calls P f args.toArray w R := by
  refine calls_of_wp hf hb (h _ _ ?_ hw)
  have ha' : args.length ≤ N := Nat.le_of_ble_eq_true ha
  refine ⟨by simp [hN]; omega, rfl, ?_⟩
  intro i v hi
  obtain ⟨_, h2⟩ := look_nums args 0 i v hi
  simp only [Nat.sub_zero] at h2
  have hlt : i < args.length := (List.getElem?_eq_some_iff.1 h2).1
  refine ⟨by omega, ?_⟩
  have h3 : args[i] = v := (List.getElem?_eq_some_iff.1 h2).2
  simp [Array.getElem?_append, hlt, h3]

/-! tables -/
theorem y_ldn {k : Nat} (hx : Ev l x (pt v k 1)) (hT : One P t) (hr : ∀ w, C w → Rd w v 1 n xs) (hlt : k < n) : Ys P C N l ⟨dd, .load t x, ty, ps, af, g⟩ (xs.getD k undef) := yl_of fun a w hs hc => by
  obtain ⟨e1, e2, A, c, rfl, e4, e5, e6⟩ := hr w hc
  obtain ⟨ad, rfl, _, hcell⟩ := e6 (by omega)
  have hk : k < xs.length := by omega
  have h1 := hcell k xs[k] (List.getElem?_eq_getElem hk)
  have h2 : a.eval x = .pointer (some (ad.add (k * 1))) := hx N a hs
  rw [Nat.mul_one] at h2
  simp [execOp, h2, Instr.loadAt, Instr.sureAddr, loadVar, hT.1 w, h1, hk]
theorem y_ldA {k : Nat} {us : List Value} {xss : List (List Int)} (hx : Ev l x (pt v k 1)) (hT : One P t) (hr : ∀ w, C w → RII w v us xss) (hlt : k < xss.length) : Ys P C N l ⟨dd, .load t x, ty, ps, af, g⟩ (us.getD k undef) :=
  y_ldn hx hT (fun w hw => (hr w hw).1) hlt
theorem y_ldT (i : Nat) {k : Nat} {us : List Value} {xss : List (List Int)} (hx : Ev l x (pt v k 1)) (hT : One P t) (ho : os[i]? = some (.tab v e e' us xss none)) (hlt : k < xss.length) : Ys P (Hp w0 os) N l ⟨dd, .load t x, ty, ps, af, g⟩ (us.getD k undef) :=
  y_ldn hx hT (fun w hw => (rii_tab i ho w hw).1) hlt

/-! stores -/
theorem run_storeAt {w : World} {ad : Addr} {u v' : Value} (hT : One P t) (hc : w.cell? ad = some v') (hf : w.frozen? ad = false) (h1 : u.oneCell' = true) : (Instr.storeAt t (.pointer (some ad)) u).run P w = .ok () (w.setCell ad u) := by
  obtain ⟨i, hi, his⟩ := Option.map_eq_some_iff.1 hT.2
  have hcl : u.cells = #[u] := by cases u <;> first | rfl | (simp [Value.oneCell'] at h1)
  have hst := run_store P w ad u .plain h1
  rw [hc, hf] at hst
  simp only [Bool.false_eq_true, if_false] at hst
  have ha : ad.add 0 = ad := by simp [Addr.add]
  simp [Instr.storeAt, Instr.sureAddr, storeVar, sizeOf, typeInfo, hi, his, hcl, storeCells, ha, hst]
theorem TL.store (i : Nat) {k : Nat} {u : Value} (hx : Ev l x (pt v k 1)) (hy : Ev l y u) (hT : One P t) (ho : os[i]? = some (.row v e 1 n xs)) (hlt : k < n) (h1 : u.oneCell' = true)
    (h : TL P ops Q N (Hp w0 (os.set i (.row v e 1 n (xs.set k u)))) rest l) :
    TL P ops Q N (Hp w0 os) (⟨none, .store t x y, ty, ps, af, none⟩ :: rest) l := TL.raw rfl fun a w hs hw => by
  have hr := hw.get i ho
  have h2 : a.eval x = pt v k 1 := hx N a hs
  rcases hr.2 with ⟨_, rfl⟩ | ⟨b, cap, cur, rfl, hc0, hb, hg, hnc, hcm, hcs, htk⟩
  · omega
  · have hk : k < n * 1 := by omega
    have hlen : xs.length = n * 1 := hr.1
    have hr : w.ownsRow w0.heap.size e 1 (.slice (some ⟨b, 0, none⟩) n cap) n xs := ⟨hr.1, .inr ⟨b, cap, cur, rfl, hb, hg, hnc, hcm, hcs, htk⟩⟩
    have hc : w.cell? ⟨b, k, none⟩ = xs[k]? := World.ownsRow.cellAt hr k hk
    rw [List.getElem?_eq_getElem (by omega)] at hc
    have hf : w.frozen? ⟨b, k, none⟩ = false := World.ownsRow.frozenAt hr k
    obtain ⟨s1, s2⟩ := World.ownsRow.stored hr k u
    have hadd : (⟨b, 0, none⟩ : Addr).add (k * 1) = ⟨b, k, none⟩ := by rw [Addr.add_lit]; simp
    have hrun := run_storeAt (P := P) (t := t) (u := u) hT hc hf h1
    simp only [pt, hadd] at h2
    unfold Oper.wp
    simp only [execOp, h2, hy N a hs, Sem.run_bind, hrun, Result.andThen_ok, Sem.run_pure, Oper.upon]
    exact h _ _ hs (hw.turn_at i ho s2.os s2.tape s2.output s2.size (fun q hq hne => s2.block q hq (fun e => hne ((own_obk hc0).trans e.symm))) (Own.of s1) (fun q hq => .inl hq))
theorem TL.storeI (i : Nat) {k : Nat} {zs : List Int} {q : Int} (hx : Ev l x (pt v k 1)) (hy : Ev l y (int q)) (hT : One P t) (ho : os[i]? = some (rowI e v zs)) (hlt : k < zs.length)
    (h : TL P ops Q N (Hp w0 (os.set i (rowI e v (zs.set k q)))) rest l) : TL P ops Q N (Hp w0 os) (⟨none, .store t x y, ty, ps, af, none⟩ :: rest) l :=
  TL.store i hx hy hT ho hlt rfl (by
    have e1 : (ints zs).set k (int q) = ints (zs.set k q) := by simp [ints, List.map_set]
    rw [e1]
    simpa only [rowI, List.length_set] using h)
/-- A store into a row of a table. -/
theorem TL.storeT (i : Nat) {j k : Nat} {us : List Value} {xss : List (List Int)} {q : Int} (hx : Ev l x (pt (us.getD j undef) k 1)) (hy : Ev l y (int q)) (hT : One P t) (ho : os[i]? = some (tabI e e' v us xss)) (hj : j < xss.length) (hlt : k < (xss.getD j []).length)
    (h : TL P ops Q N (Hp w0 (os.set i (tabI e e' v us (xss.set j ((xss.getD j []).set k q))))) rest l) : TL P ops Q N (Hp w0 os) (⟨none, .store t x y, ty, ps, af, none⟩ :: rest) l := TL.raw rfl fun a w hs hw => by
  have ht := hw.get i ho
  have hjl : j < us.length := by rw [ht.2.1]; exact hj
  have hr : Own w w0.heap.size e' 1 (us.getD j undef) (xss.getD j []).length (ints (xss.getD j [])) := ht.2.2.1 j hjl (by simp)
  have h2 : a.eval x = pt (us.getD j undef) k 1 := hx N a hs
  have hD := ht.2.2.2
  obtain ⟨u, hu⟩ : ∃ u, us.getD j undef = u := ⟨_, rfl⟩
  obtain ⟨zs, hz⟩ : ∃ zs, xss.getD j [] = zs := ⟨_, rfl⟩
  rw [hu] at h2 hr
  rw [hz] at hr hlt h
  rcases hr.2 with ⟨_, h0⟩ | ⟨b, cap, cur, rfl, hc0, hb, hg, hnc, hcm, hcs, htk⟩
  · omega
  · have hlen : (ints zs).length = zs.length * 1 := hr.1
    have hr : w.ownsRow w0.heap.size e' 1 (.slice (some ⟨b, 0, none⟩) zs.length cap) zs.length (ints zs) := ⟨hr.1, .inr ⟨b, cap, cur, rfl, hb, hg, hnc, hcm, hcs, htk⟩⟩
    have hc : w.cell? ⟨b, k, none⟩ = (ints zs)[k]? := World.ownsRow.cellAt hr k (by omega)
    rw [List.getElem?_eq_getElem (by omega)] at hc
    have hf : w.frozen? ⟨b, k, none⟩ = false := World.ownsRow.frozenAt hr k
    obtain ⟨s1, s2⟩ := World.ownsRow.stored hr k (int q)
    have e1 : (ints zs).set k (int q) = ints (zs.set k q) := by simp [ints, List.map_set]
    rw [e1] at s1
    have hadd : (⟨b, 0, none⟩ : Addr).add (k * 1) = ⟨b, k, none⟩ := by rw [Addr.add_lit]; simp
    have hrun := run_storeAt (P := P) (t := t) (u := int q) hT hc hf rfl
    simp only [pt, hadd] at h2
    unfold Oper.wp
    simp only [execOp, h2, hy N a hs, Sem.run_bind, hrun, Result.andThen_ok, Sem.run_pure, Oper.upon]
    have hub : obk (us.getD j undef) = some b := by rw [hu]; exact own_obk hc0
    refine h _ _ hs (hw.turn_at i ho s2.os s2.tape s2.output s2.size (fun p hp hne => s2.block p hp (fun e => hne (.inr ⟨j, hjl, by simp, by rw [hub]; exact e.symm⟩))) ?_ (fun p hp => .inl hp))
    refine ⟨?_, by simpa using ht.2.1, fun p hp hne => ?_, ht.2.2.2⟩
    · have := Own.keep ht.1 (w' := w.setCell ⟨b, k, none⟩ (int q)) fun p hp => s2.block p ((ht.lt p (.inl hp)).2) (fun e => (hD j hjl b hub).1 (by rw [hp]; exact e))
      simpa using this
    · by_cases hpj : p = j
      · subst hpj
        have e2 : (xss.set p (zs.set k q)).getD p [] = zs.set k q := by simp [hj]
        rw [e2, hu]
        have := Own.of s1
        unfold RowOk
        simpa using this
      · have e2 : (xss.set j (zs.set k q)).getD p [] = xss.getD p [] := by simp [Ne.symm hpj]
        rw [e2]
        exact Own.keep (ht.2.2.1 p hp hne) fun r hr => s2.block r ((ht.lt r (.inr ⟨p, hp, by simp, hr⟩)).2) (fun e => (hD p hp r hr).2 j hjl (Ne.symm hpj) (by rw [hub]; exact e.symm))

/-! numbers -/
theorem y_min {p q : Int} (hx : Ev l x (int p)) (hy : Ev l y (int q)) : Ys P C N l ⟨dd, .call { callee := .builtin .min, args := #[x, y], argTypes := ats }, ty, ps, af, g⟩ (int (min p q)) := yl_of fun a w hs _ => by
  have e1 : (if q < p then q else p) = min p q := by rw [Int.min_def]; split <;> split <;> omega
  simp only [execOp, resolve, invoke, builtin, List.map_toArray, List.map_cons, List.map_nil, hx N a hs, hy N a hs]
  simp [run_min_int2, e1]
theorem y_max {p q : Int} (hx : Ev l x (int p)) (hy : Ev l y (int q)) : Ys P C N l ⟨dd, .call { callee := .builtin .max, args := #[x, y], argTypes := ats }, ty, ps, af, g⟩ (int (max p q)) := yl_of fun a w hs _ => by
  have e1 : (if p < q then q else p) = max p q := by rw [Int.max_def]; split <;> split <;> omega
  simp only [execOp, resolve, invoke, builtin, List.map_toArray, List.map_cons, List.map_nil, hx N a hs, hy N a hs]
  simp [run_max_int2, e1]
theorem y_quo {p q : Int} (hx : Ev l x (int p)) (hy : Ev l y (int q)) (h1 : 0 ≤ p ∧ p ≤ 9223372036854775807) (h2 : 1 ≤ q) : Ys P C N l ⟨dd, .binOp .quo t x y t', ty, ps, af, g⟩ (int (p / q)) := yl_of fun a w hs _ => by
  have e0 : ¬ q = 0 := by omega
  have e1 : p.tdiv q = p / q := Int.tdiv_eq_ediv_of_nonneg h1.1
  have e3 : In64 (p / q) := by
    have := Int.ediv_nonneg h1.1 (show 0 ≤ q by omega)
    have := Int.ediv_le_self q h1.1
    unfold In64; omega
  simp only [execOp, hx N a hs, hy N a hs]; simp [go_sem, Op.intDiv, e0, e1, wrap_in e3]
theorem y_rem {p q : Int} (hx : Ev l x (int p)) (hy : Ev l y (int q)) (h1 : 0 ≤ p ∧ p ≤ 9223372036854775807) (h2 : 1 ≤ q) : Ys P C N l ⟨dd, .binOp .rem t x y t', ty, ps, af, g⟩ (int (p % q)) := yl_of fun a w hs _ => by
  have e0 : ¬ q = 0 := by omega
  have e1 : p.tmod q = p % q := Int.tmod_eq_emod_of_nonneg h1.1
  simp only [execOp, hx N a hs, hy N a hs]; simp [go_sem, Op.intDiv, e0, e1]
theorem ln_one {v : Value} (h : Ln v n) : v.oneCell' = true := by obtain ⟨A, c, rfl, _⟩ := h; rfl
theorem ocs_nil : ∀ u ∈ ([] : List Value), u.oneCell' = true := by simp
theorem ocs_cons {u : Value} {us : List Value} (h : u.oneCell' = true) (hs : ∀ u ∈ us, u.oneCell' = true) : ∀ x ∈ u :: us, x.oneCell' = true := by
  intro x hx
  rcases List.mem_cons.1 hx with rfl | hx
  · exact h
  · exact hs x hx
theorem TL.storeB (i : Nat) {b j : Nat} {cs : List Value} {u : Value} (hx : Ev l x (.pointer (some ⟨b, j, none⟩))) (hy : Ev l y u) (hT : One P t) (ho : os[i]? = some (.blk b e cs)) (hj : j < cs.length) (h1 : ∀ w, Hp w0 os w → u.oneCell' = true)
    (h : TL P ops Q N (Hp w0 (os.set i (.blk b e (cs.set j u)))) rest l) : TL P ops Q N (Hp w0 os) (⟨none, .store t x y, ty, ps, af, none⟩ :: rest) l := TL.raw rfl fun a w hs hw => by
  have hr := hw.get i ho
  have h2 := hx N a hs
  have hc : w.cell? ⟨b, j, none⟩ = some cs[j] := by rw [cell_of_row w b j cs.toArray e (0, 0) hr.2]; simp [hj]
  have hf : w.frozen? ⟨b, j, none⟩ = false := frozen_of_row w b j cs.toArray e hr.2
  have hrun := run_storeAt (P := P) (t := t) (u := u) hT hc hf (h1 w hw)
  have hs2 := heap_setCell_same w b j cs.toArray e u hr.2
  unfold Oper.wp
  simp only [execOp, h2, hy N a hs, Sem.run_bind, hrun, Result.andThen_ok, Sem.run_pure, Oper.upon]
  refine h _ _ hs (hw.turn_at i ho rfl rfl rfl (by simp) (fun q _ hne => heap_setCell_other w ⟨b, j, none⟩ q u (fun e => hne (by rw [e]; rfl))) ⟨hr.1, by simpa using hs2⟩ (fun q hq => .inl hq))
/-- A variable of type t is a struct or an array of n cells. -/
def AggT (P : Program) (t : TypeId) (n : Nat) : Prop := ((∃ fs, P.underlying t = some (.struct fs)) ∨ (∃ m e, P.underlying t = some (.array m e))) ∧ (P.info? t).map (·.size) = some n
theorem AggT.load {w : World} {b : Nat} {cs : List Value} (hT : AggT P t cs.length) (hg : w.heap[b]? = some (.cells cs.toArray e (0, 0))) : (loadVar t ⟨b, 0, none⟩).run P w = .ok (.agg cs.toArray) w := by
  obtain ⟨⟨fs, h⟩ | ⟨m, e1, h⟩, hs⟩ := hT
  · exact run_loadVar_row (P := P) w b e t cs.toArray (0, 0) _ hg h rfl (by simpa using hs)
  · exact run_loadVar_row (P := P) w b e t cs.toArray (0, 0) _ hg h rfl (by simpa using hs)
theorem y_ldagg (i : Nat) {b : Nat} {cs : List Value} (hx : Ev l x (.pointer (some ⟨b, 0, none⟩))) (hT : AggT P t cs.length) (ho : os[i]? = some (.blk b e cs)) : Ys P (Hp w0 os) N l ⟨dd, .load t x, ty, ps, af, g⟩ (.agg cs.toArray) := yl_of fun a w hs hw => by
  have hr := hT.load (hw.get i ho).2
  simp [execOp, hx N a hs, Instr.loadAt, Instr.sureAddr, hr]
theorem TL.storeAgg (i : Nat) {b : Nat} {cs us : List Value} (hx : Ev l x (.pointer (some ⟨b, 0, none⟩))) (hy : Ev l y (.agg us.toArray)) (hT : AggT P t us.length) (ho : os[i]? = some (.blk b e cs)) (hl : cs.length = us.length) (h1 : ∀ w, Hp w0 os w → ∀ u ∈ us, u.oneCell' = true)
    (h : TL P ops Q N (Hp w0 (os.set i (.blk b e us))) rest l) : TL P ops Q N (Hp w0 os) (⟨none, .store t x y, ty, ps, af, none⟩ :: rest) l := TL.raw rfl fun a w hs hw => by
  have h3 := hT.2
  have hg := hw.get i ho
  have hr := run_storeVar_row (P := P) w b e t cs.toArray us.toArray hg.2 (by simpa using h3) (by simpa using hl) (by rw [Array.all_eq_true_iff_forall_mem]; intro u hu; exact h1 w hw u (by simpa using hu))
  unfold Oper.wp
  simp only [execOp, hx N a hs, hy N a hs, Instr.storeAt, Instr.sureAddr, Sem.run_bind, Sem.run_pure, hr, Result.andThen_ok, Oper.upon]
  refine h _ _ hs (hw.turn_at i ho rfl rfl rfl (by simp) (fun q _ hne => setRow_other w b q _ (fun e => hne e.symm)) ⟨hg.1, setRow_heap w b cs.toArray _ e _ hg.2⟩ (fun q hq => .inl hq))
theorem y_bld0 {q : Value} (h : ∀ w, (Instr.build t #[]).run P w = .ok q w) : Ys P C N l ⟨dd, .build t #[], ty, ps, af, g⟩ q := yl_of fun a w hs _ => by simp [execOp, h w]
theorem y_bld1 (hx : Ev l x v) (h : ∀ A n c w, (Instr.build t #[(0, .slice A n c)]).run P w = .ok (.agg #[.slice A n c]) w) (hl : ∀ w, C w → Ln v n) : Ys P C N l ⟨dd, .build t #[(0, x)], ty, ps, af, g⟩ (.agg #[v]) := yl_of fun a w hs hw => by
  obtain ⟨A, c, rfl, _⟩ := hl w hw
  simp [execOp, hx N a hs, h A n c w]
theorem TN.retC {fn : Func} {R : Ending → World → Prop} {e0 : Exit} (i : Nat) {s b : Nat} {cs : List Value} (he : e0 = .ret ∨ e0 = .normal) (hr : fn.results = #[.cell s t]) (hx : Ev l (.tmp s) (.pointer (some ⟨b, 0, none⟩))) (hT : AggT P t cs.length) (ho : os[i]? = some (.blk b e cs))
    (h : ∀ w, Hp w0 os w → R (.returned (.agg cs.toArray)) w) : TN (bodyPost P fn R) e0 N (Hp w0 os) l := fun a w hs hw => by
  have hl := hT.load (hw.get i ho).2
  have h4 := hx N a hs
  simp only [Act.eval, Array.getD_eq_getD_getElem?] at h4
  have : (results fn a.tmps).run P w = .ok (.agg cs.toArray) w := by simp [results, hr, h4, asAddr, hl]
  rcases he with rfl | rfl <;> exact ⟨hs.defers, _, this, h w hw⟩
theorem TN.retCT {fn : Func} {R : Ending → World → Prop} {e0 : Exit} (i : Nat) {s u b : Nat} {v' : Value} {cs : List Value} (he : e0 = .ret ∨ e0 = .normal) (hr : fn.results = #[.cell s t, .tmp u]) (hx : Ev l (.tmp s) (.pointer (some ⟨b, 0, none⟩))) (hy : Ev l (.tmp u) v') (hT : AggT P t cs.length) (ho : os[i]? = some (.blk b e cs))
    (h : ∀ w, Hp w0 os w → R (.returned (.tuple #[.agg cs.toArray, v'])) w) : TN (bodyPost P fn R) e0 N (Hp w0 os) l := fun a w hs hw => by
  have hl := hT.load (hw.get i ho).2
  have h4 := hx N a hs
  have h5 := hy N a hs
  simp only [Act.eval, Array.getD_eq_getD_getElem?] at h4 h5
  have : (results fn a.tmps).run P w = .ok (.tuple #[.agg cs.toArray, v']) w := by simp [results, hr, h4, h5, asAddr, hl]
  rcases he with rfl | rfl <;> exact ⟨hs.defers, _, this, h w hw⟩
theorem Hp.emptyTab {w : World} {v : Value} (e' : TypeId) (h : Hp w0 (.row v e sz 0 [] :: os) w) (hs : sz = 1 := by rfl) : Hp w0 (.tab v e e' [] [] none :: os) w := by
  subst hs
  exact ⟨h.1, fun c hc => by
    rcases List.mem_cons.1 hc with rfl | hc
    · exact ⟨h.2.1 _ (List.mem_cons_self ..), rfl, fun i hi => absurd hi (by simp), fun i hi => absurd hi (by simp)⟩
    · exact h.2.1 c (List.mem_cons_of_mem _ hc), by
    have hp := List.pairwise_cons.1 h.2.2
    exact List.pairwise_cons.2 ⟨fun d hd k hk => hp.1 d hd k (by
      rcases hk with hk | ⟨i, hi, _⟩
      · exact hk
      · simp at hi), hp.2⟩⟩
theorem Hp.zeros {w : World} {v : Value} (h : Hp w0 (.row v e 1 n (List.replicate n (.int .i64 0)) :: os) w) : Hp w0 (rowI e v (List.replicate n (0 : Int)) :: os) w := by
  simpa [rowI, ints, List.map_replicate] using h
/-- Some chunks, in another order. -/
theorem Hp.picks {w : World} {os' : List Ck} (is : List Nat) (hn : is.Nodup) (hp : is.map (fun i : Nat => os[i]?) = os'.map some) (h : Hp w0 os w) : Hp w0 os' w := by
  have get : ∀ (k : Nat) (c : Ck), os'[k]? = some c → ∃ i : Nat, is[k]? = some i ∧ os[i]? = some c := fun k c hk => by
    have h1 : (is.map (fun i : Nat => os[i]?))[k]? = some (some c) := by rw [hp]; simp [hk]
    rw [List.getElem?_map] at h1
    cases hi : is[k]? with
    | none => rw [hi] at h1; simp at h1
    | some i => rw [hi] at h1; exact ⟨i, rfl, by simpa using h1⟩
  refine ⟨h.1, fun c hc => ?_, pw_of fun i j c d hlt hi hj => ?_⟩
  · obtain ⟨k, hk⟩ := List.mem_iff_getElem?.1 hc
    obtain ⟨i, _, hi⟩ := get k c hk
    exact h.get i hi
  · obtain ⟨p, hp1, hp2⟩ := get i c hi
    obtain ⟨q, hq1, hq2⟩ := get j d hj
    refine h.apart (fun e => ?_) hp2 hq2
    subst e
    have h1 := (List.getElem?_eq_some_iff.1 hp1)
    have h2 := (List.getElem?_eq_some_iff.1 hq1)
    have := (List.pairwise_iff_getElem.1 hn) i j h1.1 h2.1 hlt
    exact this (h1.2.trans h2.2.symm)
/-- A row that lies alone in a slice of rows is a table. -/
theorem Hp.uniTab {w : World} (i j : Nat) (hij : Nat.beq i j = false) {r : Value} {qs : List Int} (h : Hp w0 os w) (hi : os[i]? = some (.row v e 1 1 [r])) (hj : os[j]? = some (rowI e' r qs)) : Hp w0 ((os.set i (tabI e e' v [r] [qs])).set j nilCk) w := by
  have hne : i ≠ j := by intro e; subst e; simp at hij
  have h1 := h.get i hi
  have h2 := h.get j hj
  have hap := h.apart hne hi hj
  refine h.turn2 hne hi hj rfl rfl rfl (Nat.le_refl _) (fun _ _ _ _ => rfl) ⟨h1, rfl, ?_, ?_⟩ ?_
  · intro p hp _
    obtain rfl : p = 0 := by simp at hp; omega
    exact h2
  · intro p hp k hk
    obtain rfl : p = 0 := by simp at hp; omega
    refine ⟨fun hk' => hap k hk' hk, fun q hq hqp => ?_⟩
    simp at hq; omega
  · rintro k (hk | ⟨p, hp, _, hk⟩)
    · exact .inl hk
    · obtain rfl : p = 0 := by simp at hp; omega
      exact .inr (.inl hk)

/-- One row of a table, alone. -/
theorem Hp.focus {w : World} (i j : Nat) {us : List Value} {xss : List (List Int)} (h : Hp w0 os w) (hi : os[i]? = some (tabI e e' v us xss)) (hj : j < xss.length) :
    Hp w0 (rowI e' (us.getD j undef) (xss.getD j []) :: os.set i (.tab v e e' us xss (some j))) w := by
  have h1 := h.get i hi
  have hjl : j < us.length := by rw [h1.2.1]; exact hj
  have hlt := (List.getElem?_eq_some_iff.1 hi).1
  have hself : (os.set i (.tab v e e' us xss (some j)))[i]? = some (.tab v e e' us xss (some j)) := by simp [hlt]
  have hX : Hp w0 (os.set i (.tab v e e' us xss (some j))) w := h.turn_at i hi rfl rfl rfl (Nat.le_refl _) (fun _ _ _ => rfl)
    ⟨h1.1, h1.2.1, fun p hp _ => h1.2.2.1 p hp (by simp), h1.2.2.2⟩ (fun k hk => by
      rcases hk with hk | ⟨p, hp, _, hk⟩
      · exact .inl (.inl hk)
      · exact .inl (.inr ⟨p, hp, by simp, hk⟩))
  refine ⟨h.1, fun c hc => ?_, List.pairwise_cons.2 ⟨fun d hd k hk hk' => ?_, hX.2.2⟩⟩
  · rcases List.mem_cons.1 hc with rfl | hc
    · exact h1.2.2.1 j hjl (by simp)
    · exact hX.2.1 c hc
  · have hk : obk (us.getD j undef) = some k := hk
    obtain ⟨q, hq⟩ := List.mem_iff_getElem?.1 hd
    rcases get_set1 hq with ⟨_, rfl⟩ | ⟨e2, hq⟩
    · rcases hk' with hk' | ⟨p, hp, hne, hk'⟩
      · exact (h1.2.2.2 j hjl k hk).1 hk'
      · exact (h1.2.2.2 j hjl k hk).2 p hp (fun e => hne (by rw [e])) hk'
    · exact h.apart (fun e => e2 e.symm) hi hq k (.inr ⟨j, hjl, by simp, hk⟩) hk'
theorem Hp.unfocus {w : World} (i j : Nat) {us : List Value} {xss : List (List Int)} {ys : List Int} (hlt : i < os.length) (hj : j < xss.length)
    (h : Hp w0 (rowI e' (us.getD j undef) ys :: os.set i (.tab v e e' us xss (some j))) w) : Hp w0 (os.set i (tabI e e' v us (xss.set j ys))) w := by
  have hi : (rowI e' (us.getD j undef) ys :: os.set i (.tab v e e' us xss (some j)))[i + 1]? = some (.tab v e e' us xss (some j)) := by simp [hlt]
  have h0 : (rowI e' (us.getD j undef) ys :: os.set i (.tab v e e' us xss (some j)))[0]? = some (rowI e' (us.getD j undef) ys) := rfl
  have h1 := h.get (i + 1) hi
  have h2 := h.get 0 h0
  have hjl : j < us.length := by rw [h1.2.1]; exact hj
  have := h.turn2 (c' := tabI e e' v us (xss.set j ys)) (by omega : i + 1 ≠ 0) hi h0 rfl rfl rfl (Nat.le_refl _) (fun _ _ _ _ => rfl) ⟨by simpa using h1.1, by simpa using h1.2.1, fun p hp _ => by
      by_cases hpj : p = j
      · subst hpj
        have e2 : (xss.set p ys).getD p [] = ys := by simp [hj]
        rw [e2]; exact h2
      · have e2 : (xss.set j ys).getD p [] = xss.getD p [] := by simp [Ne.symm hpj]
        rw [e2]; exact h1.2.2.1 p hp (fun e => hpj (Option.some.inj e)), h1.2.2.2⟩ (fun k hk => by
      rcases hk with hk | ⟨p, hp, _, hk⟩
      · exact .inl (.inl hk)
      · by_cases hpj : p = j
        · subst hpj; exact .inr (.inl hk)
        · exact .inl (.inr ⟨p, hp, fun e => hpj (Option.some.inj e), hk⟩))
  simp only [List.set_cons_succ, List.set_set, List.set_cons_zero] at this
  exact this.sublist (.cons _ (.refl _))
theorem TL.callmT (i j : Nat) {us : List Value} {xss : List (List Int)} (ret : Value) (qs : List Int) (he : En P k) (hv : Evs l ars vs) (hb : Nat.blt d N = true) (ho : os[i]? = some (tabI e e' v us xss)) (hj : j < xss.length)
    (hc : ∀ w fr, Hp w0 (rowI e' (us.getD j undef) (xss.getD j []) :: fr) w → Calls P k vs.toArray w (fun e w' => ∃ _j : Unit, e = .returned ret ∧ Hp w0 (rowI e' (us.getD j undef) qs :: fr) w'))
    (h : TL P ops Q N (Hp w0 (os.set i (tabI e e' v us (xss.set j qs)))) rest ((d, ret) :: l)) :
    TL P ops Q N (Hp w0 os) (⟨some d, .call { callee := .value (.func k), args := ars.toArray, argTypes := ats }, ty, ps, af, none⟩ :: rest) l :=
  TL.call (D := fun v1 w' => v1 = ret ∧ Hp w0 (os.set i (tabI e e' v us (xss.set j qs))) w') he hv hb (fun w hw => (hc w _ (hw.focus i j ho hj)).mono fun _ _ ⟨_, h1, h2⟩ => ⟨_, h1, rfl, h2.unfocus i j (List.getElem?_eq_some_iff.1 ho).1 hj⟩)
    (fun v a w hs ⟨h1, h2⟩ => by subst h1; exact h a w hs h2)
theorem TL.callm0 {ι : Type} (i : Nat) {c : Ck} (c' : ι → Ck) (he : En P k) (hv : Evs l ars vs) (ho : os[i]? = some c)
    (hc : ∀ w fr, Hp w0 (c :: fr) w → Calls P k vs.toArray w (fun e w' => ∃ j, e = .returned (.tuple #[]) ∧ Hp w0 (c' j :: fr) w')) (h : ∀ j, TL P ops Q N (Hp w0 (os.set i (c' j))) rest l) :
    TL P ops Q N (Hp w0 os) (⟨none, .call { callee := .value (.func k), args := ars.toArray, argTypes := ats }, ty, ps, af, none⟩ :: rest) l := by
  obtain ⟨hlt, hget⟩ := List.getElem?_eq_some_iff.1 ho
  have p1 : (c :: os.eraseIdx i).Perm os := by
    rw [← hget]
    have h := List.perm_middle (a := os[i]) (l₁ := os.take i) (l₂ := os.drop (i + 1))
    have e1 : os.take i ++ os[i] :: os.drop (i + 1) = os := by rw [← List.drop_eq_getElem_cons hlt, List.take_append_drop]
    rw [e1] at h
    rw [List.eraseIdx_eq_take_drop_succ]
    exact h.symm
  have p2 : ∀ c', (os.set i c').Perm (c' :: os.eraseIdx i) := fun c' => by
    rw [List.set_eq_take_append_cons_drop, if_pos hlt, List.eraseIdx_eq_take_drop_succ]
    exact List.perm_middle
  exact TL.call0 (D := fun w' => ∃ j, Hp w0 (os.set i (c' j)) w') he hv (fun w hw => (hc w (os.eraseIdx i) (hw.perm p1)).mono fun _ _ ⟨j, h1, h2⟩ => ⟨_, h1, j, h2.perm (p2 _)⟩)
    (fun a w hs ⟨i, h2⟩ => h i a w hs h2)
def Ck.len : Ck → Nat
  | .row _ _ _ n _ => n
  | .blk _ _ _ => 0
  | .tab _ _ _ _ xss _ => xss.length
theorem Ck.ok.maxn {B : Nat} {w : World} {c : Ck} (h : c.ok B w) : c.len ≤ 9223372036854775807 := by
  cases c with
  | row v e sz n xs => exact (rd_own h).2.1
  | blk g e cs => exact Nat.zero_le _
  | tab v e e' us xss hole => exact (rd_own h.1).2.1
theorem TN.ret0 {fn : Func} {R : Ending → World → Prop} {e : Exit} (he : e = .ret ∨ e = .normal) (hr : fn.results = #[]) (h : ∀ w, C w → R (.returned (.tuple #[])) w) : TN (bodyPost P fn R) e N C l := fun a w hs hc => by
  rcases he with rfl | rfl <;> exact ⟨hs.defers, .tuple #[], by rw [results_none hr], h w hc⟩
theorem flat_ints (qs : List Int) : (ints qs).flatMap (·.cells.toList) = ints qs := by
  induction qs with
  | nil => rfl
  | cons q qs ih => simp only [ints, List.map_cons, List.flatMap_cons] at *; rw [ih]; rfl
theorem flat_strs (qs : List ByteArray) : (strs qs).flatMap (·.cells.toList) = strs qs := by
  induction qs with
  | nil => rfl
  | cons q qs ih => simp only [strs, List.map_cons, List.flatMap_cons] at *; rw [ih]; rfl
theorem TL.buildI {parts : List (Nat × Operand)} {zs : List Operand} {qs : List Int} (hT : SlT P t e z 1 bytes) (hz : parts = List.zip (List.range' 0 (ints qs).length) zs) (hv : Evs l zs (ints qs)) (hn : n = qs.length) (hsm : n ≤ 16777216) (hb : Nat.blt d N = true)
    (h : ∀ v', TL P ops Q N (Hp w0 (rowI e v' qs :: os)) rest ((d, v') :: l)) :
    TL P ops Q N (Hp w0 os) (⟨some d, .buildSlice t n parts.toArray, ty, ps, af, none⟩ :: rest) l :=
  TL.buildSlice hT hz hv (by intro u hu; obtain ⟨q, _, rfl⟩ := List.mem_map.1 hu; rfl) (by simp [hn, ints]) (by omega) hb (fun v' => by
    rw [flat_ints, hn]; exact h v')
theorem TL.buildS {parts : List (Nat × Operand)} {zs : List Operand} {qs : List ByteArray} (hT : SlT P t e z 1 bytes) (hz : parts = List.zip (List.range' 0 (strs qs).length) zs) (hv : Evs l zs (strs qs)) (hn : n = qs.length) (hsm : n ≤ 16777216) (hb : Nat.blt d N = true)
    (h : ∀ v', TL P ops Q N (Hp w0 (rowS e v' qs :: os)) rest ((d, v') :: l)) :
    TL P ops Q N (Hp w0 os) (⟨some d, .buildSlice t n parts.toArray, ty, ps, af, none⟩ :: rest) l :=
  TL.buildSlice hT hz hv (by intro u hu; obtain ⟨q, _, rfl⟩ := List.mem_map.1 hu; rfl) (by simp [hn, strs]) (by omega) hb (fun v' => by
    rw [flat_strs, hn]; exact h v')
/-- A slice of one slice. -/
theorem TL.buildU {u : Value} (hT : SlT P t e z 1 bytes) (hx : Ev l x u) (hu : ∀ w, Hp w0 os w → Ln u m) (hb : Nat.blt d N = true)
    (h : ∀ v', TL P ops Q N (Hp w0 (.row v' e 1 1 [u] :: os)) rest ((d, v') :: l)) :
    TL P ops Q N (Hp w0 os) (⟨some d, .buildSlice t 1 #[(0, x)], ty, ps, af, none⟩ :: rest) l := fun a w hs hw => by
  obtain ⟨A, c, rfl, _⟩ := hu w hw
  exact TL.buildSlice (parts := [(0, x)]) (zs := [x]) (vs := [.slice A m c]) hT rfl ⟨hx, trivial⟩ (by intro q hq; simp only [List.mem_singleton] at hq; subst hq; rfl) rfl (by simp) hb (fun v' => h v') a w hs hw
/-- A variable of its own, one cell. -/
def CellAt (w : World) (b : Nat) (u : Value) : Prop := w.cell? ⟨b, 0, none⟩ = some u ∧ b < w.heap.size
theorem CellAt.below {w w' : World} {b : Nat} {u : Value} (h : CellAt w b u) (hb : Below w.heap.size w w') : CellAt w' b u :=
  ⟨(hb.cell (p := ⟨b, 0, none⟩) h.2).trans h.1, Nat.lt_of_lt_of_le h.2 hb.size⟩
theorem cell_blk {w w2 : World} {b : Nat} {cs : List Value} {u : Value} (i : Nat) (ho : os[i]? = some (.blk b e cs)) (hu : cs[0]? = some u) (hw : Hp w0 os w) (hb : Below w.heap.size w w2) : CellAt w2 b u := by
  have h := hw.get i ho
  have hlt := (h.lt b rfl).2
  refine CellAt.below ⟨?_, hlt⟩ hb
  rw [cell_of_row w b 0 cs.toArray e (0, 0) h.2]
  simpa using hu
theorem y_ldc {b : Nat} {u : Value} (hx : Ev l x (.pointer (some ⟨b, 0, none⟩))) (hT : One P t) (hc : CellAt w0 b u) : Ys P (Hp w0 os) N l ⟨dd, .load t x, ty, ps, af, g⟩ u := yl_of fun a w hs hw => by
  have h1 := (hc.below hw.1).1
  have h2 := hx N a hs
  simp [execOp, h2, Instr.loadAt, Instr.sureAddr, loadVar, hT.1 w, h1]
theorem y_conv_i64 {k : IntKind} {p : Int} {d1 : TypeDesc} (hx : Ev l x (.int k p)) (hs1 : P.underlying t = some d1) (hd : P.underlying t' = some (.int .i64)) (h : 0 ≤ p ∧ p ≤ 9223372036854775807) :
    Ys P C N l ⟨dd, .convert t t' x, ty, ps, af, g⟩ (.int .i64 p) := yl_of fun a w hs _ => by
  have h3 : In64 p := by unfold In64; omega
  have hk : P.intKind t' = .i64 := by simp [Program.intKind, hd]
  have h4 := run_convert_int (P := P) w t t' k p (by rw [hs1]; rfl) (by rw [hk]; exact hd)
  rw [hk, wrap_in h3] at h4
  simp only [execOp, hx N a hs, Sem.run_bind, h4, Result.andThen_ok, Sem.run_pure]
theorem y_conv_u64 {k : IntKind} {p : Int} {d1 : TypeDesc} (hx : Ev l x (.int k p)) (hs1 : P.underlying t = some d1) (hd : P.underlying t' = some (.int .u64)) (h : 0 ≤ p ∧ p ≤ 9223372036854775807) :
    Ys P C N l ⟨dd, .convert t t' x, ty, ps, af, g⟩ (.int .u64 p) := yl_of fun a w hs _ => by
  have hk : P.intKind t' = .u64 := by simp [Program.intKind, hd]
  have h4 := run_convert_int (P := P) w t t' k p (by rw [hs1]; rfl) (by rw [hk]; exact hd)
  have h5 : IntKind.u64.wrap p = p := by rw [IntKind.wrap_u64]; omega
  rw [hk, h5] at h4
  simp only [execOp, hx N a hs, Sem.run_bind, h4, Result.andThen_ok, Sem.run_pure]
theorem y_shr1 {p : Int} (hx : Ev l x (.int .u64 p)) (hy : Ev l y (.int .u64 1)) (_h : 0 ≤ p ∧ p ≤ 9223372036854775807) : Ys P C N l ⟨dd, .binOp .shr t x y t', ty, ps, af, g⟩ (.int .u64 (p / 2)) := yl_of fun a w hs _ => by
  simp only [execOp, hx N a hs, hy N a hs]
  have h5 : p.fdiv 2 = p / 2 := Int.fdiv_eq_ediv_of_nonneg p (by omega)
  simp [go_sem, Op.shift, h5, IntKind.bits]
def isNilV : Value → Bool
  | .slice none _ _ => true
  | _ => false
theorem ri_isnil {w : World} {xs : List Int} (h : RI w v xs) (hn : isNilV v = true) : xs = [] := by
  obtain ⟨_, _, A, c, rfl, h2, h3, _⟩ := h
  cases A with
  | none => have := h3 rfl; exact List.eq_nil_of_length_eq_zero (by omega)
  | some a => cases hn
theorem y_isnil (hx : Ev l x v) (hy : Ev l y (.slice none 0 0)) (ht : P.underlying t = some (.slice e)) (hl : ∀ w, C w → Ln v n) : Ys P C N l ⟨dd, .binOp .eql t x y t', ty, ps, af, g⟩ (.bool (isNilV v)) := yl_of fun a w hs hw => by
  obtain ⟨A, c, rfl, _⟩ := hl w hw
  have hr : (binOp .eql t (.slice A n c) (.slice none 0 0)).run P w = .ok (.bool A.isNone) w := by
    unfold binOp
    simp [run_equal_slice_nil w t e A n c ht]
  simp only [execOp, hx N a hs, hy N a hs]
  simp [go_sem, hr]
  cases A <;> rfl
theorem TL.boxS (hx : Ev l x v) (hl : ∀ w, Hp w0 os w → Ln v n) (hb : Nat.blt d N = true) (h : ∀ b, TL P ops Q N (Hp w0 (.blk b e [v] :: os)) rest ((d, .pointer (some ⟨b, 0, none⟩)) :: l)) :
    TL P ops Q N (Hp w0 os) (⟨some d, .box e x, ty, ps, af, none⟩ :: rest) l := fun a w hs hw => by
  obtain ⟨A, c, rfl, _⟩ := hl w hw
  exact TL.box hx hb h a w hs hw
theorem getD_rep {α : Type} (n j : Nat) (x d : α) (h : j < n) : (List.replicate n x).getD j d = x := by simp [h]
theorem Hp.madeTab {w : World} {v : Value} (e' : TypeId) (h : Hp w0 (.row v e 1 n (List.replicate n (.slice none 0 0)) :: os) w) : Hp w0 (tabI e e' v (List.replicate n (.slice none 0 0)) (List.replicate n []) :: os) w := by
  have h0 := h.get 0 rfl
  have nilb : ∀ p, p < (List.replicate n (Value.slice none 0 0)).length → obk ((List.replicate n (Value.slice none 0 0)).getD p undef) = none := fun p hp => by
    rw [getD_rep n p _ _ (by simpa using hp)]; rfl
  refine ⟨h.1, fun c hc => ?_, ?_⟩
  · rcases List.mem_cons.1 hc with rfl | hc
    · refine ⟨by rw [List.length_replicate]; exact h0, by simp, fun p hp _ => ?_, fun p hp k hk => ?_⟩
      · have hp' : p < n := by simpa using hp
        rw [getD_rep n p _ _ hp', getD_rep n p _ _ hp']
        exact Own.nil _ _ _ _
      · rw [nilb p hp] at hk; cases hk
    · exact h.2.1 c (List.mem_cons_of_mem _ hc)
  · have hp := List.pairwise_cons.1 h.2.2
    refine List.pairwise_cons.2 ⟨fun d hd k hk => hp.1 d hd k ?_, hp.2⟩
    rcases hk with hk | ⟨q, hq, _, hk⟩
    · exact hk
    · rw [nilb q hq] at hk; cases hk
/-- A row of ints is laid at a place of a table. -/
theorem TL.storeU (i j : Nat) {k : Nat} {r : Value} {us : List Value} {xss : List (List Int)} {qs : List Int} (hij : Nat.beq i j = false) (hx : Ev l x (pt v k 1)) (hy : Ev l y r) (hT : One P t) (ho : os[i]? = some (tabI e e' v us xss)) (hj : os[j]? = some (rowI e' r qs)) (hlt : k < xss.length)
    (h : TL P ops Q N (Hp w0 ((os.set i (tabI e e' v (us.set k r) (xss.set k qs))).set j nilCk)) rest l) :
    TL P ops Q N (Hp w0 os) (⟨none, .store t x y, ty, ps, af, none⟩ :: rest) l := TL.raw rfl fun a w hs hw => by
  have hne : i ≠ j := by intro e; subst e; simp at hij
  have ht := hw.get i ho
  have hrj := hw.get j hj
  have hap := hw.apart hne ho hj
  have hlen : us.length = xss.length := ht.2.1
  have h2 : a.eval x = pt v k 1 := hx N a hs
  have h1 : r.oneCell' = true := by
    rcases hrj.2 with ⟨⟨A, rfl⟩, _⟩ | ⟨g, cap, cur, rfl, _⟩ <;> rfl
  rcases ht.1.2 with ⟨_, h0⟩ | ⟨b, cap, cur, rfl, hc0, hb, hg, hnc, hcm, hcs, htk⟩
  · omega
  · have hr : w.ownsRow w0.heap.size e 1 (.slice (some ⟨b, 0, none⟩) xss.length cap) xss.length us := ⟨ht.1.1, .inr ⟨b, cap, cur, rfl, hb, hg, hnc, hcm, hcs, htk⟩⟩
    have hc : w.cell? ⟨b, k, none⟩ = us[k]? := World.ownsRow.cellAt hr k (by omega)
    rw [List.getElem?_eq_getElem (by omega)] at hc
    have hf : w.frozen? ⟨b, k, none⟩ = false := World.ownsRow.frozenAt hr k
    obtain ⟨s1, s2⟩ := World.ownsRow.stored hr k r
    have hadd : (⟨b, 0, none⟩ : Addr).add (k * 1) = ⟨b, k, none⟩ := by rw [Addr.add_lit]; simp
    have hrun := run_storeAt (P := P) (t := t) (u := r) hT hc hf h1
    simp only [pt, hadd] at h2
    have hvb : obk (.slice (some ⟨b, 0, none⟩) xss.length cap) = some b := own_obk hc0
    unfold Oper.wp
    simp only [execOp, h2, hy N a hs, Sem.run_bind, hrun, Result.andThen_ok, Sem.run_pure, Oper.upon]
    have keepR : ∀ q, obk r = some q → (w.setCell ⟨b, k, none⟩ r).heap[q]? = w.heap[q]? := fun q hq => s2.block q (hrj.lt q hq).2 (fun e => hap q (.inl (by rw [hvb]; exact e.symm)) hq)
    have gk : (us.set k r).getD k undef = r := by simp [show k < us.length by omega]
    have gxk : (xss.set k qs).getD k [] = qs := by simp [hlt]
    have gn : ∀ p, p ≠ k → (us.set k r).getD p undef = us.getD p undef := fun p hp => by simp [Ne.symm hp]
    have gxn : ∀ p, p ≠ k → (xss.set k qs).getD p [] = xss.getD p [] := fun p hp => by simp [Ne.symm hp]
    refine h _ _ hs (hw.turn2 hne ho hj s2.os s2.tape s2.output s2.size (fun p hp hn1 _ => s2.block p hp (fun e => hn1 (.inl (by rw [hvb]; exact e.symm)))) ⟨by simpa using Own.of s1, by simpa using hlen, fun p hp _ => ?_, fun p hp q hq => ?_⟩ (fun q hq => ?_))
    · by_cases hpk : p = k
      · subst hpk; rw [gk, gxk]; exact Own.keep hrj keepR
      · rw [gn p hpk, gxn p hpk]
        exact Own.keep (ht.2.2.1 p (by simpa using hp) (by simp)) fun q hq => s2.block q (ht.lt q (.inr ⟨p, by simpa using hp, by simp, hq⟩)).2 (fun e => (ht.2.2.2 p (by simpa using hp) q hq).1 (by rw [hvb]; exact e.symm))
    · by_cases hpk : p = k
      · subst hpk
        rw [gk] at hq
        refine ⟨fun hv => hap q (.inl hv) hq, fun m hm hmp => ?_⟩
        rw [gn m hmp]
        exact fun hm' => hap q (.inr ⟨m, by simpa using hm, by simp, hm'⟩) hq
      · rw [gn p hpk] at hq
        have hp' : p < us.length := by simpa using hp
        refine ⟨(ht.2.2.2 p hp' q hq).1, fun m hm hmp => ?_⟩
        by_cases hmk : m = k
        · subst hmk; rw [gk]; exact fun hm' => hap q (.inr ⟨p, hp', by simp, hq⟩) hm'
        · rw [gn m hmk]; exact (ht.2.2.2 p hp' q hq).2 m (by simpa using hm) hmp
    · rcases hq with hq | ⟨p, hp, _, hq⟩
      · exact .inl (.inl hq)
      · by_cases hpk : p = k
        · subst hpk; rw [gk] at hq; exact .inr (.inl hq)
        · rw [gn p hpk] at hq; exact .inl (.inr ⟨p, by simpa using hp, by simp, hq⟩)
end
/-- A row that is owned, or one that came in and is only read. -/
abbrev optI (e : TypeId) (o : Bool) (v : Value) (zs : List Int) : Ck := bif o then rowI e v zs else nilCk
theorem ri_opt {w0 : World} {os : List Ck} {v : Value} {xs : List Int} (i : Nat) {e : TypeId} {o : Bool} (hi : os[i]? = some (optI e o v xs)) (h : o = false → RI w0 v xs) : ∀ w, Hp w0 os w → RI w v xs := fun w hw => by
  cases o with
  | true => exact rd_own (hw.get i hi)
  | false => exact (h rfl).below hw.1
/-- A row of an owned table, taken out of it. -/
theorem ext_row {w0 w : World} {os : List Ck} (i : Nat) {e e' : TypeId} {v : Value} {us : List Value} {xss : List (List Int)} {j : Nat} (hi : os[i]? = some (tabI e e' v us xss)) (hj : j < xss.length) (hw : Hp w0 os w) : Hp w0 [rowI e' (us.getD j undef) (xss.getD j [])] w := by
  have h := hw.get i hi
  refine ⟨hw.1, ?_, by simp⟩
  intro c hc
  obtain rfl := List.mem_singleton.1 hc
  exact h.2.2.1 j (by rw [h.2.1]; exact hj) (by simp)
end Go.Proofs.Ytcmhgkcifejgcaa
