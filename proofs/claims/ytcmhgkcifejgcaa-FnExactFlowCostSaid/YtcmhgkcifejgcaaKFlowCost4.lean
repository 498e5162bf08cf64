/-
  Part of a proof: rules of the walk, plain functions and their laws, walks. No condition.
-/
import Derived.Test.YtcmhgkcifejgcaaKFlowCost3
namespace Go.Proofs.Ytcmhgkcifejgcaa
open Go Go.RowKit

/-- A block that is only read. -/
def BlkAt (w : World) (b : Nat) (cs : List Value) : Prop := b < w.heap.size ∧ ∀ (j : Nat) (u : Value), cs[j]? = some u → w.cell? ⟨b, j, none⟩ = some u
theorem BlkAt.below {w w' : World} {b : Nat} {cs : List Value} (h : BlkAt w b cs) (hb : Below w.heap.size w w') : BlkAt w' b cs :=
  ⟨Nat.lt_of_lt_of_le h.1 hb.size, fun j u hu => (hb.cell (p := ⟨b, j, none⟩) h.1).trans (h.2 j u hu)⟩
/-- A pointer that may be nil, and its block. -/
def wptr (o : Bool) (b : Nat) : Value := bif o then .pointer (some ⟨b, 0, none⟩) else .pointer none
def wblk (o : Bool) (b : Nat) (e : TypeId) (cs : List Value) : Ck := bif o then .blk b e cs else nilCk
theorem wptr_t {o : Bool} (h : o = true) (b : Nat) : wptr o b = .pointer (some ⟨b, 0, none⟩) := by subst h; rfl
theorem wblk_t {o : Bool} (h : o = true) (b : Nat) (e : TypeId) (cs : List Value) : wblk o b e cs = .blk b e cs := by subst h; rfl
section
variable {P : Program} {ops : Array Oper} {Q : Exit → Act → World → Prop} {N : Nat} {C : World → Prop} {rest : List Oper} {l : Sl}
variable {w0 : World} {os : List Ck} {v u : Value} {t t' e : TypeId} {d k : Nat} {x y : Operand} {ty : TypeId} {ps : String} {af : Array Edge} {dd : Option Tmp} {g : Option (Nat × Bool)} {m n : Int}
theorem y_pickKT {c : Operand} {b : Bool} (hc : Ev l c (.bool b)) (h : b = true) (hx : Ev l x v) : Ys P C N l ⟨dd, .pick c x y, ty, ps, af, g⟩ v := y_pick hc (fun _ => hx) (fun h' => by rw [h] at h'; cases h')
theorem y_pickKF {c : Operand} {b : Bool} (hc : Ev l c (.bool b)) (h : b = false) (hy : Ev l y v) : Ys P C N l ⟨dd, .pick c x y, ty, ps, af, g⟩ v := y_pick hc (fun h' => by rw [h] at h'; cases h') (fun _ => hy)
theorem blk_at {w : World} {b : Nat} {cs : List Value} (i : Nat) (ho : os[i]? = some (.blk b e cs)) (hw : Hp w0 os w) : BlkAt w b cs := by
  have h := hw.get i ho
  refine ⟨(h.lt b rfl).2, fun j u hu => ?_⟩
  rw [cell_of_row w b j cs.toArray e (0, 0) h.2]
  simpa using hu
theorem y_ldk {b j : Nat} {cs : List Value} (hx : Ev l x (.pointer (some ⟨b, j, none⟩))) (hT : One P t) (hc : BlkAt w0 b cs) (hu : cs[j]? = some u) : Ys P (Hp w0 os) N l ⟨dd, .load t x, ty, ps, af, g⟩ u := yl_of fun a w hs hw => by
  have h1 := (hc.below hw.1).2 j u hu
  have h2 := hx N a hs
  simp [execOp, h2, Instr.loadAt, Instr.sureAddr, loadVar, hT.1 w, h1]
theorem y_bldW {v1 v2 : Value} {n1 n2 : Nat} (hx : Ev l x (.agg #[v1])) (hy : Ev l y v2) (h : ∀ A n c A2 n2 c2 w, (Instr.build t #[(0, .agg #[.slice A n c]), (1, .slice A2 n2 c2)]).run P w = .ok (.agg #[.slice A n c, .slice A2 n2 c2, .slice none 0 0]) w)
    (hl : ∀ w, C w → Ln v1 n1) (hl2 : ∀ w, C w → Ln v2 n2) : Ys P C N l ⟨dd, .build t #[(0, x), (1, y)], ty, ps, af, g⟩ (.agg #[v1, v2, .slice none 0 0]) := yl_of fun a w hs hw => by
  obtain ⟨A, c, rfl, _⟩ := hl w hw
  obtain ⟨A2, c2, rfl, _⟩ := hl2 w hw
  simp [execOp, hx N a hs, hy N a hs, h]
theorem y_bldF (hx : Ev l x (.int .i64 m)) (h : ∀ m w, (Instr.build t #[(0, .int .i64 m)]).run P w = .ok (.agg #[.int .i64 m, .slice none 0 0]) w) : Ys P C N l ⟨dd, .build t #[(0, x)], ty, ps, af, g⟩ (.agg #[.int .i64 m, .slice none 0 0]) := yl_of fun a w hs hw => by
  simp [execOp, hx N a hs, h]
theorem TL.boxW {v1 v2 : Value} {n1 n2 : Nat} (hx : Ev l x (.agg #[v1, v2, .slice none 0 0])) (hl : ∀ w, Hp w0 os w → Ln v1 n1) (hl2 : ∀ w, Hp w0 os w → Ln v2 n2) (hb : Nat.blt d N = true)
    (h : ∀ b, TL P ops Q N (Hp w0 (.blk b e [v1, v2, .slice none 0 0] :: os)) rest ((d, .pointer (some ⟨b, 0, none⟩)) :: l)) :
    TL P ops Q N (Hp w0 os) (⟨some d, .box e x, ty, ps, af, none⟩ :: rest) l := fun a w hs hw => by
  obtain ⟨A, c, rfl, _⟩ := hl w hw
  obtain ⟨A2, c2, rfl, _⟩ := hl2 w hw
  exact TL.box hx hb h a w hs hw
end
theorem fa_106_0 (b : Nat) (w : World) : (Instr.fieldAt 106 (.pointer (some ⟨b, 0, none⟩)) 0).run Try.prog w = .ok (.pointer (some ⟨b, 0, none⟩)) w := by kernel_rfl
theorem fa_106_1 (b : Nat) (w : World) : (Instr.fieldAt 106 (.pointer (some ⟨b, 0, none⟩)) 1).run Try.prog w = .ok (.pointer (some ⟨b, 1, none⟩)) w := by kernel_rfl
theorem bd_106_f (m : Int) (w : World) : (Instr.build 106 #[(0, .int .i64 m)]).run Try.prog w = .ok (.agg #[.int .i64 m, .slice none 0 0]) w := by kernel_rfl
end Go.Proofs.Ytcmhgkcifejgcaa
namespace Go.Proofs.Ytcmhgkcifejgcaa
open Go Go.RowKit

/-- A variable of one cell of a struct's type. -/
def AggAt (w : World) (b : Nat) (e : TypeId) (u : Value) : Prop := b < w.heap.size ∧ w.heap[b]? = some (.cells #[u] e (0, 0))
theorem AggAt.below {w w' : World} {b : Nat} {e : TypeId} {u : Value} (h : AggAt w b e u) (hb : Below w.heap.size w w') : AggAt w' b e u :=
  ⟨Nat.lt_of_lt_of_le h.1 hb.size, (hb.block b h.1).trans h.2⟩
/-- A row of a table if i is one of its places, else another row. -/
def rowref (us : List Value) (v : Value) (i : Int) : Value := bif decide (0 ≤ i) then us.getD i.toNat undef else v
def rowpure (xss : List (List Int)) (x : List Int) (i : Int) : List Int := bif decide (0 ≤ i) then xss.getD i.toNat [] else x
theorem rowref_t (us : List Value) (v : Value) (k : Nat) : rowref us v (k : Int) = us.getD k undef := by
  unfold rowref; rw [decide_eq_true (by omega)]; rfl
theorem rowref_f (us : List Value) (v : Value) : rowref us v (-1) = v := rfl
theorem rowref_ri {w : World} {us : List Value} {xss : List (List Int)} {tv v : Value} {x : List Int} {i : Int} (h : i < xss.length) (hT : RII w tv us xss) (hx : RI w v x) : RI w (rowref us v i) (rowpure xss x i) := by
  unfold rowref rowpure
  by_cases h0 : 0 ≤ i
  · rw [decide_eq_true h0]; exact hT.row (by omega)
  · rw [decide_eq_false h0]; exact hx
section
variable {P : Program} {ops : Array Oper} {Q : Exit → Act → World → Prop} {N : Nat} {C : World → Prop} {rest : List Oper} {l : Sl}
variable {w0 : World} {os : List Ck} {v u : Value} {t t' e e' : TypeId} {d k m n : Nat} {x y : Operand} {ty : TypeId} {ps : String} {af : Array Edge} {dd : Option Tmp} {g : Option (Nat × Bool)} {z : Value} {bytes : Nat}
theorem agg_blk {w w2 : World} {b : Nat} (i : Nat) (ho : os[i]? = some (.blk b e [u])) (hw : Hp w0 os w) (hb : Below w.heap.size w w2) : AggAt w2 b e u := by
  have h := hw.get i ho
  exact AggAt.below ⟨(h.lt b rfl).2, h.2⟩ hb
theorem y_ldcagg {b : Nat} (hx : Ev l x (.pointer (some ⟨b, 0, none⟩))) (hT : AggT P t 1) (hc : AggAt w0 b e u) : Ys P (Hp w0 os) N l ⟨dd, .load t x, ty, ps, af, g⟩ (.agg #[u]) := yl_of fun a w hs hw => by
  have hr := AggT.load (cs := [u]) hT (hc.below hw.1).2
  simp [execOp, hx N a hs, Instr.loadAt, Instr.sureAddr, hr]
theorem TL.appendG (i q : Nat) {r : Value} {us : List Value} {qs : List Int} (hx : Ev l x v) (hy : Ev l y u) (ho : os[i]? = some (.row v e 1 us.length us)) (hm : os[q]? = some (.row u e 1 1 [r])) (hT : SlT P t e z 1 24)
    (hr : ∀ w, Hp w0 os w → RI w r qs) (hlen : us.length + 1 ≤ 5000000000000) (hb : Nat.blt d N = true)
    (h : ∀ v', TL P ops Q N (Hp w0 (os.set i (.row v' e 1 (us ++ [r]).length (us ++ [r])))) rest ((d, v') :: l)) :
    TL P ops Q N (Hp w0 os) (⟨some d, .call { callee := .builtin .append, args := #[x, y], argTypes := #[t, t] }, ty, ps, af, none⟩ :: rest) l := fun a w hs hw => by
  obtain ⟨A, c, hrv, _⟩ := (hr w hw).ln
  refine TL.append (m := 1) (ys := [r]) i hx hy ho hT (fun w' hw' => rd_own (hw'.get q hm)) (fun p hp => ?_) (by omega) (by unfold maxLen; omega) hb (fun v' => ?_) a w hs hw
  · rw [List.mem_singleton.1 hp, hrv]; rfl
  · have := h v'
    simp only [List.length_append, List.length_cons, List.length_nil] at this
    exact this
theorem Hp.gather0 {w : World} (i : Nat) (e' : TypeId) (hi : os[i]? = some (.row v e 1 ([] : List Value).length [])) (hw : Hp w0 os w) : Hp w0 [tabI e e' v [] []] w :=
  ⟨hw.1, fun c hc => by
    rw [List.mem_singleton.1 hc]
    exact ⟨hw.get i hi, rfl, fun i hi => absurd hi (by simp), fun i hi => absurd hi (by simp)⟩, by simp⟩
theorem Hp.gather {w : World} (i j : Nat) {us tus : List Value} {xss txss : List (List Int)} {tv : Value} (hi : os[i]? = some (.row v e 1 us.length us)) (hj : os[j]? = some (tabI e e' tv tus txss))
    (hg : ∃ lt : List Nat, us = lt.map (fun p => tus.getD p undef) ∧ xss = lt.map (fun p => txss.getD p []) ∧ lt.Nodup ∧ ∀ p ∈ lt, p < txss.length) (hw : Hp w0 os w) : Hp w0 [tabI e e' v us xss] w := by
  obtain ⟨lt, rfl, rfl, hd, hl⟩ := hg
  have hne : i ≠ j := by intro h; subst h; rw [hi] at hj; cases hj
  have h1 : Own w w0.heap.size e 1 v (lt.map (fun p => tus.getD p undef)).length (lt.map (fun p => tus.getD p undef)) := hw.get i hi
  have h2 := hw.get j hj
  have ap := hw.apart hne hi hj
  have gu : ∀ p, (hp : p < lt.length) → (lt.map (fun p => tus.getD p undef)).getD p undef = tus.getD lt[p] undef := fun p hp => by
    rw [getD_lt _ _ _ (by simpa using hp)]; simp
  have gx : ∀ p, (hp : p < lt.length) → (lt.map (fun p => txss.getD p [])).getD p [] = txss.getD lt[p] [] := fun p hp => by
    rw [getD_lt _ _ _ (by simpa using hp)]; simp
  have hb : ∀ p, (hp : p < lt.length) → lt[p] < tus.length := fun p hp => by rw [h2.2.1]; exact hl _ (List.getElem_mem hp)
  refine ⟨hw.1, fun c hc => ?_, by simp⟩
  rw [List.mem_singleton.1 hc]
  refine ⟨by rw [List.length_map] at *; exact h1, by simp, fun p hp _ => ?_, fun p hp k hk => ?_⟩
  · have hp' : p < lt.length := by simpa using hp
    rw [gu p hp', gx p hp']
    exact h2.2.2.1 _ (hb p hp') (by simp)
  · have hp' : p < lt.length := by simpa using hp
    rw [gu p hp'] at hk
    refine ⟨fun hv => ap k hv (.inr ⟨_, hb p hp', by simp, hk⟩), fun q hq hqp => ?_⟩
    have hq' : q < lt.length := by simpa using hq
    rw [gu q hq']
    exact (h2.2.2.2 _ (hb p hp') k hk).2 _ (hb q hq') (fun e => hqp ((List.getElem_inj hd).1 e))
theorem rii_two (i : Nat) {va vb : Value} {a b : List Int} (ho : os[i]? = some (.row v e 1 2 [va, vb])) (ha : ∀ w, Hp w0 os w → RI w va a) (hb : ∀ w, Hp w0 os w → RI w vb b) : ∀ w, Hp w0 os w → RII w v [va, vb] [a, b] := fun w hw =>
  ⟨rd_own (hw.get i ho), rfl, fun j hj => by
    match j, hj with
    | 0, _ => exact ha w hw
    | 1, _ => exact hb w hw⟩
theorem TL.build2 {u2 : Value} (hT : SlT P t e z 1 bytes) (hx : Ev l x u) (hy : Ev l y u2) (hu : ∀ w, Hp w0 os w → Ln u m) (hu2 : ∀ w, Hp w0 os w → Ln u2 n) (hb : Nat.blt d N = true)
    (h : ∀ v', TL P ops Q N (Hp w0 (.row v' e 1 2 [u, u2] :: os)) rest ((d, v') :: l)) :
    TL P ops Q N (Hp w0 os) (⟨some d, .buildSlice t 2 #[(0, x), (1, y)], ty, ps, af, none⟩ :: rest) l := fun a w hs hw => by
  obtain ⟨A, c, rfl, _⟩ := hu w hw
  obtain ⟨A2, c2, rfl, _⟩ := hu2 w hw
  exact TL.buildSlice (parts := [(0, x), (1, y)]) (zs := [x, y]) (vs := [.slice A m c, .slice A2 n c2]) hT rfl ⟨hx, hy, trivial⟩ (by intro q hq; simp only [List.mem_cons, List.not_mem_nil, or_false] at hq; rcases hq with rfl | rfl <;> rfl) rfl (by simp) hb (fun v' => h v') a w hs hw
end
end Go.Proofs.Ytcmhgkcifejgcaa
