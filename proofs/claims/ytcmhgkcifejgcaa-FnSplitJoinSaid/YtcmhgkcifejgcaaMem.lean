/-
  The rules of the walk that touch memory: slices, blocks, append, stores; and small operations on strings, tuples, structs. No condition.
-/
import Derived.Test.YtcmhgkcifejgcaaWalk
namespace Go.Proofs.Ytcmhgkcifejgcaa
open Go Go.RowKit

/-- t is a slice type with element type e, whose zero value is z, of sz cells and so many bytes. -/
def SlT (P : Program) (t e : TypeId) (z : Value) (sz bytes : Nat) : Prop :=
  P.underlying t = some (.slice e) ∧ (P.info? e).map (fun i => (i.zero, i.size, i.bytes)) = some (some z, sz, bytes) ∧ z.cells.size = sz ∧ 0 < sz
/-- A variable of type t is one cell. -/
def One (P : Program) (t : TypeId) : Prop := (∀ w, (isAgg t).run P w = .ok false w) ∧ (P.info? t).map (·.size) = some 1

theorem elem_of {P : Program} {t e : TypeId} (h : P.underlying t = some (.slice e)) : P.elem t = e := by simp [Program.elem, h]
theorem SlT.size {P : Program} {t e : TypeId} {z : Value} {sz bytes : Nat} (h : SlT P t e z sz bytes) (w : World) : (sizeOf e).run P w = .ok sz w := by
  obtain ⟨i, hi, _, hs, _⟩ := info_parts h.2.1
  simp [sizeOf, typeInfo, hi, hs]

/-- The address of element k. -/
def pt (v : Value) (k sz : Nat) : Value := match v with
  | .slice (some a) _ _ => .pointer (some (a.add (k * sz)))
  | _ => undef

/-- v[lo:hi]. -/
def resl (v : Value) (lo hi sz : Nat) : Value := match v with
  | .slice a _ c => .slice (if c = lo then a else a.map (·.add (lo * sz))) (hi - lo) (c - lo)
  | v => v

theorem addr_add_add (a : Addr) (i j : Nat) : (a.add i).add j = a.add (i + j) := by
  unfold Addr.add
  by_cases hi : i = 0 <;> by_cases hj : j = 0 <;> simp [hi, hj, Nat.add_assoc]
theorem addr_add_block (a : Addr) (i : Nat) : (a.add i).block = a.block := by unfold Addr.add; split <;> rfl

theorem rd_resl {w : World} {v : Value} {sz n : Nat} {xs : List Value} (h : Rd w v sz n xs) {lo hi : Nat} (h1 : lo ≤ hi) (h2 : hi ≤ n) :
    Rd w (resl v lo hi sz) sz (hi - lo) ((xs.take (hi * sz)).drop (lo * sz)) := by
  obtain ⟨e1, e2, A, c, rfl, e4, e5, e6⟩ := h
  have hm : hi * sz ≤ n * sz := Nat.mul_le_mul_right _ h2
  refine ⟨by rw [List.length_drop, List.length_take, e1, Nat.min_eq_left hm, Nat.sub_mul], by omega, _, _, rfl, by omega, ?_, fun hn => ?_⟩
  · intro hA
    split at hA
    · have := e5 hA; omega
    · cases A with
      | none => have := e5 rfl; omega
      | some a => simp at hA
  · obtain ⟨ad, rfl, hb, hc⟩ := e6 (by omega)
    rw [if_neg (by omega)]
    refine ⟨ad.add (lo * sz), rfl, by rw [addr_add_block]; exact hb, fun j u hu => ?_⟩
    rw [addr_add_add]
    refine hc _ u ?_
    rw [List.getElem?_drop, List.getElem?_take] at hu
    split at hu
    · exact hu
    · cases hu
theorem ri_resl {w : World} {v : Value} {xs : List Int} (h : RI w v xs) {lo hi : Nat} (h1 : lo ≤ hi) (h2 : hi ≤ xs.length) : RI w (resl v lo hi 1) ((xs.take hi).drop lo) := by
  have := rd_resl h h1 h2
  simp only [Nat.mul_one] at this
  unfold RI
  have hl : ((xs.take hi).drop lo).length = hi - lo := by rw [List.length_drop, List.length_take, Nat.min_eq_left h2]
  rw [hl]
  have : ints ((xs.take hi).drop lo) = ((ints xs).take hi).drop lo := by simp [ints, List.map_drop, List.map_take]
  rw [this]
  assumption

section
variable {P : Program} {ops : Array Oper} {Q : Exit → Act → World → Prop} {N : Nat} {C : World → Prop} {rest : List Oper} {l : Sl} {v : Value} {d : Nat}
variable {dd : Option Tmp} {ty : TypeId} {ps : String} {af : Array Edge} {g : Option (Nat × Bool)} {x y : Operand} {t e : TypeId} {z : Value} {sz bytes n m : Nat} {xs ys : List Value}

theorem y_len (hx : Ev l x v) (ht : P.underlying t = some (.slice e)) (h : ∀ w, C w → Ln v n) : Ys P C N l ⟨dd, .call { callee := .builtin .len, args := #[x], argTypes := #[t] }, ty, ps, af, g⟩ (int n) := yl_of fun a w hs hc => by
  obtain ⟨A, c, rfl, _⟩ := h w hc
  simp [execOp, resolve, invoke, builtin, hx N a hs, run_len_slice w t ty A n c (by rw [elem_of ht]; exact ht), goInt]

theorem y_idx (hx : Ev l x v) {k : Nat} {i : Int} {kk : IntKind} (hi : Ev l y (.int kk i)) (hk : i = k) (hT : SlT P t e z sz bytes) (hr : ∀ w, C w → Rd w v sz n xs) (hlt : k < n) :
    Ys P C N l ⟨dd, .indexAddr t x y, ty, ps, af, g⟩ (pt v k sz) := yl_of fun a w hs hc => by
  obtain ⟨e1, e2, A, c, rfl, e4, e5, e6⟩ := hr w hc
  obtain ⟨ad, rfl, _⟩ := e6 (by omega)
  subst hk
  have ht := hT.1
  have hsz := hT.size w
  simp [execOp, hx N a hs, hi N a hs, run_indexAt_slice w t ad n c kk k (by rw [elem_of ht]; exact ht), hlt, elem_of ht, hsz, pt]

theorem y_ld {k : Nat} {u : Value} (hx : Ev l x (pt v k 1)) (hT : One P t) (hr : ∀ w, C w → Rd w v 1 n xs) (hlt : k < n) (hu : xs[k]? = some u) : Ys P C N l ⟨dd, .load t x, ty, ps, af, g⟩ u := yl_of fun a w hs hc => by
  obtain ⟨e1, e2, A, c, rfl, e4, e5, e6⟩ := hr w hc
  obtain ⟨ad, rfl, _, hcell⟩ := e6 (by omega)
  have h1 := hcell k u hu
  have h2 : a.eval x = .pointer (some (ad.add (k * 1))) := hx N a hs
  rw [Nat.mul_one] at h2
  simp [execOp, h2, Instr.loadAt, Instr.sureAddr, loadVar, hT.1 w, h1]
theorem y_ldi {k : Nat} {zs : List Int} (hx : Ev l x (pt v k 1)) (hT : One P t) (hr : ∀ w, C w → RI w v zs) (hlt : k < zs.length) : Ys P C N l ⟨dd, .load t x, ty, ps, af, g⟩ (int (zs.getD k 0)) :=
  y_ld hx hT hr hlt (by simp [ints, hlt])
theorem y_ldu {k : Nat} {us : List Value} (hx : Ev l x (pt v k 1)) (hT : One P t) (hr : ∀ w, C w → Rd w v 1 us.length us) (hlt : k < us.length) : Ys P C N l ⟨dd, .load t x, ty, ps, af, g⟩ (us.getD k undef) :=
  y_ld hx hT hr hlt (by simp [hlt])
theorem y_idxi (hx : Ev l x v) {k : Nat} {i : Int} {kk : IntKind} {zs : List Int} (hi : Ev l y (.int kk i)) (hk : i = k) (hT : SlT P t e z 1 bytes) (hr : ∀ w, C w → RI w v zs) (hlt : k < zs.length) :
    Ys P C N l ⟨dd, .indexAddr t x y, ty, ps, af, g⟩ (pt v k 1) := y_idx hx hi hk hT hr hlt

variable {w0 : World} {os : List Ck}
theorem y_ldb (i : Nat) {b j : Nat} {cs : List Value} {u : Value} (hx : Ev l x (.pointer (some ⟨b, j, none⟩))) (hT : One P t) (ho : os[i]? = some (.blk b e cs)) (hu : cs[j]? = some u) :
    Ys P (Hp w0 os) N l ⟨dd, .load t x, ty, ps, af, g⟩ u := yl_of fun a w hs hc => by
  have h1 := (hc.get i ho).2
  have h2 := hx N a hs
  have h3 := cell_of_row w b j cs.toArray e (0, 0) h1
  simp [execOp, h2, Instr.loadAt, Instr.sureAddr, loadVar, hT.1 w, h3, hu]
theorem y_fa {s : TypeId} {f : Nat} {p q : Value} (h : ∀ w, (Instr.fieldAt s p f).run P w = .ok q w) (hx : Ev l x p) : Ys P C N l ⟨dd, .fieldAddr s x f, ty, ps, af, g⟩ q := yl_of fun a w hs _ => by
  simp [execOp, hx N a hs, h w]
theorem y_field {s : TypeId} {f : Nat} {p q : Value} (h : ∀ w, (Instr.field s p f).run P w = .ok q w) (hx : Ev l x p) : Ys P C N l ⟨dd, .field s x f, ty, ps, af, g⟩ q := yl_of fun a w hs _ => by
  simp [execOp, hx N a hs, h w]
theorem y_index {s : TypeId} {p i q : Value} (h : ∀ w, (Instr.index s p i).run P w = .ok q w) (hx : Ev l x p) (hy : Ev l y i) : Ys P C N l ⟨dd, .index s x y, ty, ps, af, g⟩ q := yl_of fun a w hs _ => by
  simp [execOp, hx N a hs, hy N a hs, h w]
theorem y_extract {i : Nat} {us : List Value} {u : Value} (hx : Ev l x (.tuple us.toArray)) (hu : us[i]? = some u) : Ys P C N l ⟨dd, .extract x i, ty, ps, af, g⟩ u := yl_of fun a w hs _ => by
  simp [execOp, hx N a hs, Instr.extract, hu]
theorem y_mkf {k : FuncId} {zs : List Operand} {us : List Value} (h : Evs l zs us) : Ys P C N l ⟨dd, .makeFunc (.func k) #[] zs.toArray, ty, ps, af, g⟩ (.func (.func k) #[] us.toArray) := yl_of fun a w hs _ => by
  simp [execOp, Instr.makeFunc, h.eq N a hs]
theorem y_nilp {a0 : Addr} (hx : Ev l x (.pointer (some a0))) : Ys P C N l ⟨dd, .nilCheck x, ty, ps, af, g⟩ (.pointer (some a0)) := yl_of fun a w hs _ => by
  simp [execOp, hx N a hs]
theorem y_slice {lo hi : Nat} {i j : Int} {y' : Operand} (hx : Ev l x v) (hy : Ev l y (int i)) (hy' : Ev l y' (int j)) (h1 : i = lo) (h2 : j = hi) (hT : SlT P t e z sz bytes) (hr : ∀ w, C w → Rd w v sz n xs) (h3 : lo ≤ hi) (h4 : hi ≤ n) :
    Ys P C N l ⟨dd, .slice t x (some y) (some y') none, ty, ps, af, g⟩ (resl v lo hi sz) := yl_of fun a w hs hc => by
  obtain ⟨e1, e2, A, c, rfl, e4, e5, e6⟩ := hr w hc
  subst h1; subst h2
  have ht := hT.1
  have hsz := hT.size w
  simp [execOp, hx N a hs, hy N a hs, hy' N a hs, Instr.sliceAt, Instr.slice, run_underlying ht, Instr.sliceBounds, Instr.sliceBound, asIntOf, h3, show hi ≤ c by omega, hsz, resl]
theorem y_slice_lo {lo : Nat} {i : Int} (hx : Ev l x v) (hy : Ev l y (int i)) (h1 : i = lo) (hT : SlT P t e z sz bytes) (hr : ∀ w, C w → Rd w v sz n xs) (h3 : lo ≤ n) :
    Ys P C N l ⟨dd, .slice t x (some y) none none, ty, ps, af, g⟩ (resl v lo n sz) := yl_of fun a w hs hc => by
  obtain ⟨e1, e2, A, c, rfl, e4, e5, e6⟩ := hr w hc
  subst h1
  have ht := hT.1
  have hsz := hT.size w
  simp [execOp, hx N a hs, hy N a hs, Instr.sliceAt, Instr.slice, run_underlying ht, Instr.sliceBounds, Instr.sliceBound, asIntOf, h3, hsz, resl]
theorem y_slice_hi {hi : Nat} {j : Int} (hx : Ev l x v) (hy : Ev l y (int j)) (h2 : j = hi) (hT : SlT P t e z sz bytes) (hr : ∀ w, C w → Rd w v sz n xs) (h4 : hi ≤ n) :
    Ys P C N l ⟨dd, .slice t x none (some y) none, ty, ps, af, g⟩ (resl v 0 hi sz) := yl_of fun a w hs hc => by
  obtain ⟨e1, e2, A, c, rfl, e4, e5, e6⟩ := hr w hc
  subst h2
  have ht := hT.1
  have hsz := hT.size w
  simp [execOp, hx N a hs, hy N a hs, Instr.sliceAt, Instr.slice, run_underlying ht, Instr.sliceBounds, Instr.sliceBound, asIntOf, show hi ≤ c by omega, hsz, resl]

/-! new memory -/
theorem get_set2 {os : List Ck} {i j k : Nat} {c n d : Ck} (h : ((os.set i c).set j n)[k]? = some d) : (k = j ∧ d = n) ∨ (k ≠ j ∧ k = i ∧ d = c) ∨ (k ≠ j ∧ k ≠ i ∧ os[k]? = some d) := by
  simp only [List.getElem?_set] at h
  by_cases e1 : j = k
  · subst e1
    left
    simp only [if_true] at h
    split at h
    · exact ⟨rfl, (Option.some.inj h).symm⟩
    · cases h
  · rw [if_neg e1] at h
    by_cases e2 : i = k
    · subst e2
      right; left
      simp only [if_true] at h
      split at h
      · exact ⟨fun e => e1 e.symm, rfl, (Option.some.inj h).symm⟩
      · cases h
    · rw [if_neg e2] at h
      exact .inr (.inr ⟨fun e => e1 e.symm, fun e => e2 e.symm, h⟩)
theorem Hp.apart {w : World} (h : Hp w0 os w) {i j : Nat} {c d : Ck} (hij : i ≠ j) (hi : os[i]? = some c) (hj : os[j]? = some d) : Apart c d := by
  obtain ⟨hi1, hi2⟩ := List.getElem?_eq_some_iff.1 hi
  obtain ⟨hj1, hj2⟩ := List.getElem?_eq_some_iff.1 hj
  have hp := List.pairwise_iff_getElem.1 h.2.2
  rcases Nat.lt_or_gt_of_ne hij with hlt | hlt
  · have := hp i j hi1 hj1 hlt
    rw [hi2, hj2] at this
    exact this
  · have := hp j i hj1 hi1 hlt
    rw [hi2, hj2] at this
    exact this.symm
theorem pw_of {os : List Ck} (h : ∀ (i j : Nat) (c d : Ck), i < j → os[i]? = some c → os[j]? = some d → Apart c d) : os.Pairwise Apart :=
  List.pairwise_iff_getElem.2 fun i j hi hj hlt => h i j _ _ hlt (List.getElem?_eq_getElem hi) (List.getElem?_eq_getElem hj)
theorem get_set1 {os : List Ck} {i k : Nat} {c d : Ck} (h : (os.set i c)[k]? = some d) : (k = i ∧ d = c) ∨ (k ≠ i ∧ os[k]? = some d) := by
  simp only [List.getElem?_set] at h
  by_cases e2 : i = k
  · subst e2
    left
    simp only [if_true] at h
    split at h
    · exact ⟨rfl, (Option.some.inj h).symm⟩
    · cases h
  · rw [if_neg e2] at h
    exact .inr ⟨fun e => e2 e.symm, h⟩
theorem Hp.turn_at {w w' : World} (i : Nat) {c c' : Ck} (h : Hp w0 os w) (hi : os[i]? = some c) (ho : w'.os = w.os) (ht : w'.tape = w.tape) (hu : w'.output = w.output)
    (hs : w.heap.size ≤ w'.heap.size) (hk : ∀ k, k < w.heap.size → ¬ c.foot k → w'.heap[k]? = w.heap[k]?) (hc : c'.ok w0.heap.size w') (hf : ∀ k, c'.foot k → c.foot k ∨ w.heap.size ≤ k) :
    Hp w0 (os.set i c') w' := by
  have h1 := h.get i hi
  have far : ∀ k d, k ≠ i → os[k]? = some d → Apart c' d := fun k d e2 hd q hq hq' => by
    rcases hf q hq with hq | hq
    · exact h.apart (fun e => e2 e.symm) hi hd q hq hq'
    · have := ((h.get k hd).lt q hq').2; omega
  refine ⟨⟨ho.trans h.1.os, ht.trans h.1.tape, hu.trans h.1.output, Nat.le_trans h.1.size hs, fun k hkk => ?_⟩, ?_, pw_of ?_⟩
  · rw [hk k (Nat.lt_of_lt_of_le hkk h.1.size) (fun hf => by have := (h1.lt k hf).1; omega)]
    exact h.1.block k hkk
  · intro d hd
    obtain ⟨k, hd⟩ := List.mem_iff_getElem?.1 hd
    rcases get_set1 hd with ⟨_, rfl⟩ | ⟨e2, hd⟩
    · exact hc
    · have h3 := h.get k hd
      exact h3.keep fun q hq => hk q (h3.lt q hq).2 (fun hq' => h.apart (fun e => e2 e.symm) hi hd q hq' hq)
  · intro p q c d hlt hp hq
    rcases get_set1 hp with ⟨e2, e5⟩ | ⟨e2, hp'⟩
    · rcases get_set1 hq with ⟨e3, e6⟩ | ⟨e4, hq'⟩
      · omega
      · rw [e5]; exact far q d e4 hq'
    · rcases get_set1 hq with ⟨e3, e6⟩ | ⟨e4, hq'⟩
      · rw [e6]; exact (far p c e2 hp').symm
      · exact h.apart (by omega) hp' hq'

theorem TL.box (hx : Ev l x v) (hb : Nat.blt d N = true) (h : ∀ b, TL P ops Q N (Hp w0 (.blk b e v.cells.toList :: os)) rest ((d, .pointer (some ⟨b, 0, none⟩)) :: l)) :
    TL P ops Q N (Hp w0 os) (⟨some d, .box e x, ty, ps, af, none⟩ :: rest) l := TL.raw rfl fun a w hs hw => by
  have hr : (execOp a.eval ⟨some d, .box e x, ty, ps, af, none⟩).run P w = .ok (.value (.pointer (some ⟨w.heap.size, 0, none⟩))) (w.alloc (.cells v.cells e)) := by
    simp [execOp, hx N a hs, Instr.box, newVar, newRow]
  unfold Oper.wp
  rw [hr]
  exact h _ _ _ (hs.put hb _) (hw.alloc _ _)
theorem TL.alloc {u : Value} (hz : (P.info? e).bind (·.zero) = some u) (hb : Nat.blt d N = true) (h : ∀ b, TL P ops Q N (Hp w0 (.blk b e u.cells.toList :: os)) rest ((d, .pointer (some ⟨b, 0, none⟩)) :: l)) :
    TL P ops Q N (Hp w0 os) (⟨some d, .alloc e, ty, ps, af, none⟩ :: rest) l := TL.raw rfl fun a w hs hw => by
  obtain ⟨i, hi, hiz⟩ := Option.bind_eq_some_iff.1 hz
  have hr : (execOp a.eval ⟨some d, .alloc e, ty, ps, af, none⟩).run P w = .ok (.value (.pointer (some ⟨w.heap.size, 0, none⟩))) (w.alloc (.cells u.cells e)) := by
    simp [execOp, Instr.alloc, newVar, newRow, zeroValue, typeInfo, hi, hiz]
  unfold Oper.wp
  rw [hr]
  exact h _ _ _ (hs.put hb _) (hw.alloc _ _)

theorem ck_row_new {w : World} {cs : Array Value} (hs : cs.size = n * sz) (hn : n ≤ maxLen) : (Ck.row (.slice (some ⟨w.heap.size, 0, none⟩) n n) e sz n cs.toList).ok w.heap.size (w.alloc (.cells cs e)) :=
  Own.of (World.ownsRow_lit w cs n (Nat.le_refl _) hn hs)

theorem fill_from (sz : Nat) (hsz : 0 < sz) : ∀ (vs : List Value) (i : Nat) (cur : Array Value), (∀ u ∈ vs, u.cells.size = sz) → cur.size = (i + vs.length) * sz →
    Instr.fill (fun i => some (i * sz, sz)) cur (List.zip (List.range' i vs.length) vs) = some (cur.toList.take (i * sz) ++ vs.flatMap (·.cells.toList)).toArray
  | [], i, cur, _, hc => by
    simp only [List.length_nil, Nat.add_zero] at hc
    simp only [List.length_nil, List.range'_zero, List.zip_nil_left, Instr.fill, List.flatMap_nil, List.append_nil, Option.some.injEq]
    rw [List.take_of_length_le (by simp [hc])]
  | u :: vs, i, cur, hu, hc => by
    have h0 := hu u (by simp)
    have hc' : cur.size = (i + 1 + vs.length) * sz := by rw [hc]; simp only [List.length_cons]; congr 1; omega
    have hle : i * sz + sz ≤ cur.size := by
      rw [hc', Nat.add_mul, Nat.add_mul, Nat.one_mul]; omega
    have key : ∀ (m j : Nat) (us : List Value) (cur : Array Value), us.length = m → i * sz + j + m ≤ cur.size →
        ((us.zipIdx j).foldl (fun cs (c, j) => cs.setIfInBounds (i * sz + j) c) cur) = (cur.toList.take (i * sz + j) ++ us ++ cur.toList.drop (i * sz + j + m)).toArray := by
      intro m
      induction m with
      | zero =>
        intro j us cur hl _
        have : us = [] := List.eq_nil_of_length_eq_zero hl
        subst this
        simp
      | succ m ih =>
        intro j us cur hl hb
        match us, hl with
        | c :: us, hl =>
          simp only [List.zipIdx_cons, List.foldl_cons]
          rw [ih (j + 1) us _ (by simpa using hl) (by simp; omega)]
          congr 1
          simp only [Array.toList_setIfInBounds]
          have hlt : i * sz + j < cur.toList.length := by simp; omega
          rw [show i * sz + (j + 1) = (i * sz + j) + 1 by omega, List.take_succ_eq_append_getElem (by simpa using hlt), List.getElem_set_self, List.take_set_of_le (Nat.le_refl _), List.drop_set_of_lt (by omega)]
          simp [Nat.add_assoc, Nat.add_comm 1 m]
    have hz : List.zip (List.range' i (u :: vs).length) (u :: vs) = (i, u) :: List.zip (List.range' (i + 1) vs.length) vs := by
      simp [List.range'_succ]
    rw [hz]
    simp only [Instr.fill, h0, ne_eq, not_true_eq_false, decide_false, Bool.false_or]
    rw [if_neg (by simp; omega)]
    have hk := key sz 0 u.cells.toList cur (by simp [h0]) (by omega)
    simp only [Nat.add_zero] at hk
    have hfold : (u.cells.zipIdx.foldl (fun cs (c, j) => cs.setIfInBounds (i * sz + j) c) cur) = (cur.toList.take (i * sz) ++ u.cells.toList ++ cur.toList.drop (i * sz + sz)).toArray := by
      rw [← hk, ← Array.foldl_toList]; simp [Array.toList_zipIdx]
    rw [hfold, fill_from sz hsz vs (i + 1) _ (fun x hx => hu x (by simp [hx])) (by
      simp [h0]; omega)]
    congr 1
    simp only [List.flatMap_cons, ← List.append_assoc]
    congr 2
    have hlen : (List.take (i * sz) cur.toList ++ u.cells.toList).length = (i + 1) * sz := by
      simp [h0, Nat.add_mul]; omega
    rw [← hlen, List.take_left' rfl]

theorem TL.buildSlice {parts : List (Nat × Operand)} {zs : List Operand} {vs : List Value} (hT : SlT P t e z sz bytes) (hz : parts = List.zip (List.range' 0 vs.length) zs) (hv : Evs l zs vs) (hc : ∀ u ∈ vs, u.cells.size = sz)
    (hn : n = vs.length) (hsm : n * sz ≤ 16777216) (hb : Nat.blt d N = true)
    (h : ∀ v', TL P ops Q N (Hp w0 (.row v' e sz n (vs.flatMap (·.cells.toList)) :: os)) rest ((d, v') :: l)) :
    TL P ops Q N (Hp w0 os) (⟨some d, .buildSlice t n parts.toArray, ty, ps, af, none⟩ :: rest) l := TL.raw rfl fun a w hs hw => by
  obtain ⟨i, hi, hiz, his, _⟩ := info_parts hT.2.1
  have hmap : (parts.toArray.map fun (i, x) => (i, a.eval x)).toList = List.zip (List.range' 0 vs.length) vs := by
    have := hv.eq N a hs
    rw [hz]
    simp only [List.map_toArray]
    rw [← this, List.zip_map_right]
    rfl
  have hlen0 : (vs.flatMap (·.cells.toList)).length = n * sz := by
    subst hn
    clear hv hz h hmap
    induction vs with
    | nil => simp
    | cons u us ih =>
      have h1 := hc u (by simp)
      have h2 := ih (fun x hx => hc x (by simp [hx])) (by simp only [List.length_cons, Nat.add_mul] at hsm; omega)
      simp only [List.flatMap_cons, List.length_append, h2, List.length_cons, Nat.add_mul, Nat.one_mul, Array.length_toList, h1]; omega
  have hr : (execOp a.eval ⟨some d, .buildSlice t n parts.toArray, ty, ps, af, none⟩).run P w = .ok (.value (.slice (some ⟨w.heap.size, 0, none⟩) n n)) (w.alloc (.cells (vs.flatMap (·.cells.toList)).toArray e)) := by
    have hf : ∀ cur : Array Value, cur.size = n * sz → Instr.fill (fun i => some (i * sz, sz)) cur (parts.toArray.map fun (i, x) => (i, a.eval x)).toList = some (vs.flatMap (·.cells.toList)).toArray := by
      intro cur hcur
      rw [hmap, fill_from sz hT.2.2.2 vs 0 cur hc (by rw [hcur, hn, Nat.zero_add])]
      simp
    by_cases h0 : n * sz = 0
    · have hf0 := hf #[] (by simp [h0])
      simp only [execOp, Instr.buildSlice, Sem.run_bind, run_underlying hT.1, Result.andThen_ok, hT.size, Sem.run_pure, if_neg (show ¬ n * sz > 2 ^ 24 by omega), if_pos h0]
      have : ((Array.range (n * sz)).map fun (i : Nat) => (#[] : Array Value)[i % (#[] : Array Value).size]!) = #[] := by simp [h0]
      rw [this, hf0]
      simp [newRow]
    · have hf0 := hf ((Array.range (n * sz)).map fun (i : Nat) => z.cells[i % z.cells.size]!) (by simp)
      simp only [execOp, Instr.buildSlice, Sem.run_bind, run_underlying hT.1, Result.andThen_ok, hT.size, Sem.run_pure, if_neg (show ¬ n * sz > 2 ^ 24 by omega), if_neg h0]
      have hzv : (zeroValue e).run P w = .ok z w := by simp [zeroValue, typeInfo, hi, hiz]
      simp only [Result.andThen_ok, hzv]
      rw [hf0]
      simp [newRow]
  unfold Oper.wp
  rw [hr]
  refine h _ _ _ (hs.put hb _) (hw.new ((Below.refl _ _).alloc (Nat.le_refl _) _) ?_)
  have := ck_row_new (w := w) (e := e) (sz := sz) (n := n) (cs := (vs.flatMap (·.cells.toList)).toArray) (by simp only [List.size_toArray]; exact hlen0) (by
    have h1 : n ≤ n * sz := Nat.le_mul_of_pos_right _ hT.2.2.2
    unfold maxLen; omega)
  simpa using this

theorem TL.makeSlice {y : Operand} {i : Int} {u : Value} (hx : Ev l x (int i)) (hy : Ev l y (int i)) (hi : i = (n : Nat)) (hT : SlT P t e u 1 bytes) (h1 : u.cells = #[u]) (hb48 : bytes * n ≤ 281474976710656) (hm : n ≤ maxLen) (hb : Nat.blt d N = true)
    (h : ∀ v', TL P ops Q N (Hp w0 (.row v' e 1 n (List.replicate n u) :: os)) rest ((d, v') :: l)) :
    TL P ops Q N (Hp w0 os) (⟨some d, .makeSlice t x y, ty, ps, af, none⟩ :: rest) l := TL.raw rfl fun a w hs hw => by
  obtain ⟨j, hj, hz, hsz, hby⟩ := info_parts hT.2.1
  subst hi
  subst hby
  have hr := run_make (P := P) w t e j u hT.1 hj hz .i64 .i64 n n (by omega) (Int.le_refl _) (by
    have h : ((j.bytes * n : Nat) : Int) ≤ 281474976710656 := by omega
    rwa [Int.natCast_mul] at h) (by simp only [maxLen] at hm; omega)
  simp only [Int.toNat_natCast] at hr
  unfold Oper.wp
  simp only [execOp, hx N a hs, hy N a hs, Sem.run_bind, hr, Result.andThen_ok, Sem.run_pure, Oper.upon]
  refine h _ _ _ (hs.put hb _) (hw.new ((Below.refl _ _).alloc (Nat.le_refl _) _) ?_)
  have := ck_row_new (w := w) (e := e) (sz := 1) (n := n) (cs := madeCells u.cells (n * j.size)) (by rw [size_madeCells, hsz]) hm
  rw [h1, hsz, Nat.mul_one, toList_madeCells_one] at this
  rw [h1, hsz, Nat.mul_one]
  exact this

theorem run_append_none {base : Nat} {w : World} (hT : SlT P t e z sz bytes) {v : Value} (hown : Own w base e sz v n xs) {u : Value} (hr : Rd w u sz 0 []) : (Builtin.append_ #[t, t] ty #[v, u]).run P w = .ok v w := by
  obtain ⟨i, hi, _, _, _⟩ := info_parts hT.2.1
  obtain ⟨_, _, A, c, rfl, _, _, _⟩ := hr
  rcases hown.2 with ⟨⟨B, rfl⟩, rfl⟩ | ⟨g, cap, cur, rfl, _, _, _, hnc, _⟩
  · cases A <;> cases B <;> simp [Builtin.append_, run_underlying hT.1, sizeOf, typeInfo, hi, Builtin.lenOf, Builtin.firstCells, storeCells, loadCells, loadCellsFrom]
  · cases A <;> simp [Builtin.append_, run_underlying hT.1, sizeOf, typeInfo, hi, Builtin.lenOf, Builtin.firstCells, hnc, storeCells, loadCells, loadCellsFrom]

theorem run_append {base : Nat} {w : World} (hT : SlT P t e z sz bytes) {v u : Value} (hown : Own w base e sz v n xs) (hr : Rd w u sz m ys) (h1 : ∀ u ∈ ys, u.oneCell' = true)
    (hb : (n + m) * bytes ≤ 140737488355328) (hm : n + m ≤ maxLen) (hbase : base ≤ w.heap.size) :
    ∃ v' w', (Builtin.append_ #[t, t] ty #[v, u]).run P w = .ok v' w' ∧ Own w' base e sz v' (n + m) (xs ++ ys) ∧ w.grownBy w' (obk v) ∧ (obk v' = obk v ∨ obk v' = some w.heap.size ∨ obk v' = none) := by
  obtain ⟨i, hi, hz, hsz, hby⟩ := info_parts hT.2.1
  rcases Nat.eq_zero_or_pos m with h0 | h0
  · subst h0
    have : ys = [] := List.eq_nil_of_length_eq_zero (by simpa using hr.1)
    subst this
    exact ⟨v, w, run_append_none hT hown hr, by simpa using hown, World.grownBy.refl w _, .inl rfl⟩
  · obtain ⟨e1, e2, A, c, rfl, e4, e5, e6⟩ := hr
    obtain ⟨ad, rfl, _, hcells⟩ := e6 h0
    -- the new row's owner is a row of the elder word
    have fin : ∀ {v0 v' : Value} {w' : World}, w'.ownsRow base e sz v' (n + m) (xs ++ ys) → w.grownBy w' v0.ownBlock → (v'.ownBlock = v0.ownBlock ∨ v'.ownBlock = some w.heap.size) → (obk v = v0.ownBlock ∨ v0.ownBlock = none) →
        Own w' base e sz v' (n + m) (xs ++ ys) ∧ w.grownBy w' (obk v) ∧ (obk v' = obk v ∨ obk v' = some w.heap.size ∨ obk v' = none) := by
      intro v0 v' w' h2 h3 h5 h6
      refine ⟨Own.of h2, ⟨h3.os, h3.tape, h3.output, h3.size, fun k hk hne => h3.block k hk (fun e => ?_)⟩, ?_⟩
      · rcases h6 with h6 | h6
        · exact hne (by rw [h6]; exact e)
        · rw [h6] at e; cases e
      · cases ho : obk v' with
        | none => exact .inr (.inr rfl)
        | some k =>
          have hk := obk_own ho
          rcases h5 with h5 | h5
          · rcases h6 with h6 | h6
            · left; rw [h6, ← h5, hk]
            · rw [h5, h6] at hk; cases hk
          · right; left; rw [← h5, hk]
    rcases hown.2 with ⟨⟨B, rfl⟩, rfl⟩ | ⟨g, cap, cur, rfl, hc0, hbg, hg, hnc, hcm, hcs, htk⟩
    · have hx : xs = [] := List.eq_nil_of_length_eq_zero (by simpa using hown.1)
      subst hx
      rcases B with _ | bd
      · obtain ⟨v', w', hrun, h2, h3, _, h5⟩ := run_append_own_at (P := P) w base t ty e i z sz bytes hT.1 hi hz hsz hby hT.2.2.1 hT.2.2.2 (.slice none 0 0) 0 [] (World.ownsRow_nil _ _ _ _) ad m c ys e1 hcells h1 hm hb hbase
        obtain ⟨f1, f2, f3⟩ := fin (v0 := .slice none 0 0) h2 h3 h5 (.inr rfl)
        exact ⟨v', w', hrun, f1, f2, f3⟩
      · subst hsz
        subst hby
        have hr := run_append_grow (P := P) w t ty e i z hT.1 hi hz bd 0 0 [] (by simp) (by simp) ad m c ys e1 hcells (by omega) (by simp only [maxLen] at hm; omega) (growslice_fits (by omega) hb)
        have hge := grownCap_ge w (0 + m) 0 e
        have hcm := grownCap_le_maxLen w (0 + m) 0 e hm
        simp only [Nat.zero_add] at hr hge hcm ⊢
        refine ⟨_, _, hr, ?_, ⟨rfl, rfl, rfl, by simp, fun k hk _ => Below.heap_alloc w.drew _ k hk⟩, .inr (.inl (own_obk (by omega)))⟩
        refine ⟨by simpa using e1, .inr ⟨w.heap.size, _, _, rfl, by omega, hbase, heap_alloc_new w.drew _, hge, hcm, ?_, ?_⟩⟩
        · simp only [Array.size_append, List.size_toArray, size_zeroCells, hT.2.2.1, List.length_nil, e1, Nat.zero_add, ← Nat.add_mul]
          congr 1
          omega
        · simp only [Array.toList_append, List.nil_append, ← e1]
          rw [List.take_left']
          rfl
    · have hrow : w.ownsRow base e sz (.slice (some ⟨g, 0, none⟩) n cap) n xs := ⟨hown.1, .inr ⟨g, cap, cur, rfl, hbg, hg, hnc, hcm, hcs, htk⟩⟩
      obtain ⟨v', w', hrun, h2, h3, _, h5⟩ := run_append_own_at (P := P) w base t ty e i z sz bytes hT.1 hi hz hsz hby hT.2.2.1 hT.2.2.2 _ n xs hrow ad m c ys e1 hcells h1 hm hb hbase
      obtain ⟨f1, f2, f3⟩ := fin (v0 := .slice (some ⟨g, 0, none⟩) n cap) h2 h3 h5 (.inl (own_obk hc0))
      exact ⟨v', w', hrun, f1, f2, f3⟩

/-- Two chunks give way to one; the second's place is left empty. -/
theorem Hp.turn2 {w w' : World} {i j : Nat} {c1 c2 c' : Ck} (_hij : i ≠ j) (h : Hp w0 os w) (hi : os[i]? = some c1) (hj : os[j]? = some c2) (ho : w'.os = w.os) (ht : w'.tape = w.tape) (hu : w'.output = w.output)
    (hs : w.heap.size ≤ w'.heap.size) (hk : ∀ k, k < w.heap.size → ¬ c1.foot k → ¬ c2.foot k → w'.heap[k]? = w.heap[k]?) (hc : c'.ok w0.heap.size w') (hf : ∀ k, c'.foot k → c1.foot k ∨ c2.foot k ∨ w.heap.size ≤ k) :
    Hp w0 ((os.set i c').set j nilCk) w' := by
  have h1 := h.get i hi
  have h2 := h.get j hj
  have far : ∀ k d, k ≠ j → k ≠ i → os[k]? = some d → Apart c' d := fun k d e1 e2 hd q hq hq' => by
    rcases hf q hq with hq | hq | hq
    · exact h.apart (fun e => e2 e.symm) hi hd q hq hq'
    · exact h.apart (fun e => e1 e.symm) hj hd q hq hq'
    · have := ((h.get k hd).lt q hq').2; omega
  have nilA : ∀ d, Apart nilCk d := fun d q hq => by
    have : obk (Value.slice none 0 0) = some q := hq
    simp [obk] at this
  refine ⟨⟨ho.trans h.1.os, ht.trans h.1.tape, hu.trans h.1.output, Nat.le_trans h.1.size hs, fun k hkk => ?_⟩, ?_, pw_of ?_⟩
  · rw [hk k (Nat.lt_of_lt_of_le hkk h.1.size) (fun hf => by have := (h1.lt k hf).1; omega) (fun hf => by have := (h2.lt k hf).1; omega)]
    exact h.1.block k hkk
  · intro d hd
    obtain ⟨k, hd⟩ := List.mem_iff_getElem?.1 hd
    rcases get_set2 hd with ⟨_, rfl⟩ | ⟨_, _, rfl⟩ | ⟨e1, e2, hd⟩
    · exact Own.nil _ _ _ _
    · exact hc
    · have h3 := h.get k hd
      exact h3.keep fun q hq => hk q (h3.lt q hq).2 (fun hq' => h.apart (fun e => e2 e.symm) hi hd q hq' hq) (fun hq' => h.apart (fun e => e1 e.symm) hj hd q hq' hq)
  · intro p q c d hlt hp hq
    rcases get_set2 hp with ⟨_, e5⟩ | ⟨e1, e2, e5⟩ | ⟨e1, e2, hp'⟩
    · rw [e5]; exact nilA d
    · rcases get_set2 hq with ⟨_, e6⟩ | ⟨_, e3, e6⟩ | ⟨e3, e4, hq'⟩
      · rw [e6]; exact (nilA _).symm
      · omega
      · rw [e5]; exact far q d e3 e4 hq'
    · rcases get_set2 hq with ⟨_, e6⟩ | ⟨_, e3, e6⟩ | ⟨e3, e4, hq'⟩
      · rw [e6]; exact (nilA _).symm
      · rw [e6]; exact (far p c e1 e2 hp').symm
      · exact h.apart (by omega) hp' hq'

theorem TL.append (i : Nat) {u : Value} (hx : Ev l x v) (hy : Ev l y u) (ho : os[i]? = some (.row v e sz n xs)) (hT : SlT P t e z sz bytes) (hr : ∀ w, Hp w0 os w → Rd w u sz m ys) (h1 : ∀ u ∈ ys, u.oneCell' = true)
    (hb47 : (n + m) * bytes ≤ 140737488355328) (hm : n + m ≤ maxLen) (hb : Nat.blt d N = true)
    (h : ∀ v', TL P ops Q N (Hp w0 (os.set i (.row v' e sz (n + m) (xs ++ ys)))) rest ((d, v') :: l)) :
    TL P ops Q N (Hp w0 os) (⟨some d, .call { callee := .builtin .append, args := #[x, y], argTypes := #[t, t] }, ty, ps, af, none⟩ :: rest) l := TL.raw rfl fun a w hs hw => by
  obtain ⟨v', w', hrun, h2, h3, h4⟩ := run_append (P := P) (ty := ty) hT (hw.get i ho) (hr w hw) h1 hb47 hm hw.1.size
  unfold Oper.wp
  simp only [execOp, resolve, invoke, builtin, Sem.run_bind, Sem.run_pure, Result.andThen_ok, List.map_toArray, List.map_cons, List.map_nil, hx N a hs, hy N a hs, hrun, Oper.upon]
  refine h v' _ _ (hs.put hb _) (hw.turn_at i ho h3.os h3.tape h3.output h3.size (fun k hk hne => h3.block k hk (fun e => hne e.symm)) h2 (fun k hk => ?_))
  have hk' : obk v' = some k := hk
  rcases h4 with h4 | h4 | h4
  · left; show obk v = some k; rw [← h4]; exact hk
  · right
    rw [h4] at hk'
    have := Option.some.inj hk'
    omega
  · rw [h4] at hk'; cases hk'
theorem oc_ints (zs : List Int) : ∀ u ∈ ints zs, u.oneCell' = true := ints_oneCell _ _
theorem oc_strs (zs : List ByteArray) : ∀ u ∈ strs zs, u.oneCell' = true := by
  intro u hu; obtain ⟨_, _, rfl⟩ := List.mem_map.1 hu; rfl
theorem TL.appendI (i : Nat) {u : Value} {zs qs : List Int} (hx : Ev l x v) (hy : Ev l y u) (ho : os[i]? = some (rowI e v zs)) (hT : SlT P t e z 1 8) (hr : ∀ w, Hp w0 os w → RI w u qs)
    (hm : zs.length + qs.length ≤ 17592186044416) (hb : Nat.blt d N = true) (h : ∀ v', TL P ops Q N (Hp w0 (os.set i (rowI e v' (zs ++ qs)))) rest ((d, v') :: l)) :
    TL P ops Q N (Hp w0 os) (⟨some d, .call { callee := .builtin .append, args := #[x, y], argTypes := #[t, t] }, ty, ps, af, none⟩ :: rest) l :=
  TL.append i hx hy ho hT hr (oc_ints _) (by omega) (by simp [maxLen]; omega) hb fun v' => by
    have := h v'
    simp only [rowI, List.length_append, ints, List.map_append] at this
    exact this
theorem TL.appendS (i : Nat) {u : Value} {zs qs : List ByteArray} (hx : Ev l x v) (hy : Ev l y u) (ho : os[i]? = some (rowS e v zs)) (hT : SlT P t e z 1 16) (hr : ∀ w, Hp w0 os w → Rd w u 1 qs.length (strs qs))
    (hm : zs.length + qs.length ≤ 8796093022208) (hb : Nat.blt d N = true) (h : ∀ v', TL P ops Q N (Hp w0 (os.set i (rowS e v' (zs ++ qs)))) rest ((d, v') :: l)) :
    TL P ops Q N (Hp w0 os) (⟨some d, .call { callee := .builtin .append, args := #[x, y], argTypes := #[t, t] }, ty, ps, af, none⟩ :: rest) l :=
  TL.append i hx hy ho hT hr (oc_strs _) (by omega) (by simp [maxLen]; omega) hb fun v' => by
    have := h v'
    simp only [rowS, List.length_append, strs, List.map_append] at this
    exact this

/-- A row of ints goes into a table; its own chunk is spent. -/
theorem TL.appendT (i j : Nat) {u r : Value} {e' : TypeId} {us : List Value} {xss : List (List Int)} {qs : List Int} (hij : Nat.beq i j = false) (hx : Ev l x v) (hy : Ev l y u) (ho : os[i]? = some (tabI e e' v us xss)) (hj : os[j]? = some (rowI e' r qs))
    (hT : SlT P t e z 1 24) (hr : ∀ w, Hp w0 os w → Rd w u 1 1 [r]) (hm : xss.length + 1 ≤ 5000000000000) (hb : Nat.blt d N = true)
    (h : ∀ v', TL P ops Q N (Hp w0 ((os.set i (tabI e e' v' (us ++ [r]) (xss ++ [qs]))).set j nilCk)) rest ((d, v') :: l)) :
    TL P ops Q N (Hp w0 os) (⟨some d, .call { callee := .builtin .append, args := #[x, y], argTypes := #[t, t] }, ty, ps, af, none⟩ :: rest) l := TL.raw rfl fun a w hs hw => by
  have hne : i ≠ j := by intro e; subst e; simp at hij
  have hti := hw.get i ho
  have hrj := hw.get j hj
  have hone : ∀ q ∈ [r], q.oneCell' = true := by
    intro q hq
    simp only [List.mem_singleton] at hq
    subst hq
    rcases hrj.2 with ⟨⟨A, rfl⟩, _⟩ | ⟨g, cap, cur, rfl, _⟩ <;> rfl
  obtain ⟨v', w', hrun, h2, h3, h4⟩ := run_append (P := P) (ty := ty) hT hti.1 (hr w hw) hone (by omega) (by simp [maxLen]; omega) hw.1.size
  unfold Oper.wp
  simp only [execOp, resolve, invoke, builtin, Sem.run_bind, Sem.run_pure, Result.andThen_ok, List.map_toArray, List.map_cons, List.map_nil, hx N a hs, hy N a hs, hrun, Oper.upon]
  have hap := hw.apart hne ho hj
  have hlen : us.length = xss.length := hti.2.1
  have hrk : ∀ k, obk r = some k → obk v' ≠ some k := fun k hk hk' => by
    rcases h4 with h4 | h4 | h4
    · exact hap k (.inl (by rw [← h4]; exact hk')) hk
    · have h5 := (hrj.lt k hk).2
      rw [h4] at hk'
      have := Option.some.inj hk'
      omega
    · rw [h4] at hk'; cases hk'
  have huk : ∀ p, p < us.length → ∀ k, obk (us.getD p undef) = some k → obk v' ≠ some k ∧ obk r ≠ some k := fun p hp k hk => by
    refine ⟨fun hk' => ?_, fun hk' => hap k (.inr ⟨p, hp, by simp, hk⟩) hk'⟩
    rcases h4 with h4 | h4 | h4
    · exact (hti.2.2.2 p hp k hk).1 (by rw [← h4]; exact hk')
    · have h5 := (hti.lt k (.inr ⟨p, hp, by simp, hk⟩)).2
      rw [h4] at hk'
      have := Option.some.inj hk'
      omega
    · rw [h4] at hk'; cases hk'
  have gl : ∀ p, p < us.length → (us ++ [r]).getD p undef = us.getD p undef := fun p hp => by
    simp [List.getElem?_append, hp]
  have gr : (us ++ [r]).getD us.length undef = r := by simp
  have gxl : ∀ p, p < us.length → (xss ++ [qs]).getD p [] = xss.getD p [] := fun p hp => by
    simp [List.getElem?_append, ← hlen, hp]
  have gxr : (xss ++ [qs]).getD us.length [] = qs := by simp [hlen]
  refine h v' _ _ (hs.put hb _) (hw.turn2 hne ho hj h3.os h3.tape h3.output h3.size (fun k hk h5 _ => h3.block k hk (fun e => h5 (.inl e.symm))) ⟨?_, ?_, ?_, ?_⟩ ?_)
  · simpa using h2
  · simp [hlen]
  · intro p hp _
    rcases Nat.lt_or_ge p us.length with hlt | hge
    · rw [gl p hlt, gxl p hlt]
      exact Own.keep (hti.2.2.1 p hlt (by simp)) fun k hk => h3.block k (hti.lt k (.inr ⟨p, hlt, by simp, hk⟩)).2 (fun e => (hti.2.2.2 p hlt k hk).1 e.symm)
    · obtain rfl : p = us.length := by simp at hp; omega
      rw [gr, gxr]
      exact Own.keep hrj fun k hk => h3.block k (hrj.lt k hk).2 (fun e => hap k (.inl e.symm) hk)
  · intro p hp k hk
    rcases Nat.lt_or_ge p us.length with hlt | hge
    · rw [gl p hlt] at hk
      refine ⟨(huk p hlt k hk).1, fun q hq hqp => ?_⟩
      rcases Nat.lt_or_ge q us.length with hq' | hq'
      · rw [gl q hq']; exact (hti.2.2.2 p hlt k hk).2 q hq' hqp
      · obtain rfl : q = us.length := by simp at hq; omega
        rw [gr]; exact (huk p hlt k hk).2
    · obtain rfl : p = us.length := by simp at hp; omega
      rw [gr] at hk
      refine ⟨hrk k hk, fun q hq hqp => ?_⟩
      have hq' : q < us.length := by simp at hq; omega
      rw [gl q hq']
      exact fun hk' => (huk q hq' k hk').2 hk
  · rintro k (hk | ⟨p, hp, _, hk⟩)
    · rcases h4 with h4 | h4 | h4
      · exact .inl (.inl (by rw [← h4]; exact hk))
      · rw [h4] at hk
        have := Option.some.inj hk
        exact .inr (.inr (by omega))
      · rw [h4] at hk; cases hk
    · rcases Nat.lt_or_ge p us.length with hlt | hge
      · rw [gl p hlt] at hk
        exact .inl (.inr ⟨p, hlt, by simp, hk⟩)
      · obtain rfl : p = us.length := by simp at hp; omega
        rw [gr] at hk
        exact .inr (.inl hk)
end

end Go.Proofs.Ytcmhgkcifejgcaa
