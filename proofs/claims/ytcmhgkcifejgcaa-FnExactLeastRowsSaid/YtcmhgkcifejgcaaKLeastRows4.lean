/-
  Part of a proof: rules of the walk, plain functions and their laws, walks. No condition.
-/
import Derived.Test.YtcmhgkcifejgcaaKLeastRows3
import Derived.Laws.IdiomCopy
namespace Go.Proofs.Ytcmhgkcifejgcaa
set_option linter.unusedVariables false
set_option linter.unusedSimpArgs false
open Go Go.RowKit
set_option linter.unusedVariables false
set_option linter.unusedSimpArgs false

/-- The cells of pairs. -/
def prs (ps : List (Int × Int)) : List Value := ps.flatMap fun p => [int p.1, int p.2]
abbrev prV (p : Int × Int) : Value := .agg #[int p.1, int p.2]
abbrev rowP (e : TypeId) (v : Value) (ps : List (Int × Int)) : Ck := .row v e 2 ps.length (prs ps)
def RP (w : World) (v : Value) (ps : List (Int × Int)) : Prop := Rd w v 2 ps.length (prs ps)
theorem RP.below {w w' : World} {v : Value} {ps : List (Int × Int)} (h : RP w v ps) (hb : Below w.heap.size w w') : RP w' v ps := Rd.below h hb
theorem rp_nil (w : World) : RP w (.slice none 0 0) [] := rd_nil w 2
theorem rp_arg {w0 : World} {os : List Ck} {v : Value} {ps : List (Int × Int)} (h : RP w0 v ps) : ∀ w, Hp w0 os w → RP w v ps := fun _ hw => h.below hw.1
theorem rp_row {w0 : World} {os : List Ck} {v : Value} (i : Nat) {e : TypeId} {ps : List (Int × Int)} (hi : os[i]? = some (rowP e v ps)) : ∀ w, Hp w0 os w → RP w v ps := fun _ hw => rd_own (hw.get i hi)
theorem argP_len {v : Value} {w : World} {ps : List (Int × Int)} (h : RP w v ps) : ps.length ≤ 9223372036854775807 := h.2.1
theorem prs_cons (p : Int × Int) (ps : List (Int × Int)) : prs (p :: ps) = int p.1 :: int p.2 :: prs ps := rfl
theorem prs_len (ps : List (Int × Int)) : (prs ps).length = ps.length * 2 := by
  induction ps with
  | nil => rfl
  | cons p r ih => rw [prs_cons]; simp only [List.length_cons, ih]; omega
theorem prs_app (a b : List (Int × Int)) : prs (a ++ b) = prs a ++ prs b := by unfold prs; rw [List.flatMap_append]
theorem prs_get (ps : List (Int × Int)) : ∀ (k : Nat), k < ps.length → (prs ps)[k * 2]? = some (int (ps.getD k (0, 0)).1) ∧ (prs ps)[k * 2 + 1]? = some (int (ps.getD k (0, 0)).2) := by
  induction ps with
  | nil => intro k h; simp at h
  | cons p r ih =>
    intro k h
    rw [prs_cons]
    cases k with
    | zero => exact ⟨rfl, rfl⟩
    | succ k =>
      have := ih k (by simpa using h)
      rw [show (k + 1) * 2 = (k * 2) + 1 + 1 by omega]
      simpa using this
theorem prs_set1 (ps : List (Int × Int)) : ∀ (k : Nat) (x : Int), k < ps.length → (prs ps).set (k * 2) (int x) = prs (ps.set k (x, (ps.getD k (0, 0)).2)) := by
  induction ps with
  | nil => intro k x h; simp at h
  | cons p r ih =>
    intro k x h
    cases k with
    | zero => rfl
    | succ k =>
      have := ih k x (by simpa using h)
      rw [show (k + 1) * 2 = (k * 2) + 1 + 1 by omega, prs_cons]
      simp only [List.set_cons_succ, List.getD_cons_succ]
      rw [this]; rfl
theorem prs_set2 (ps : List (Int × Int)) : ∀ (k : Nat) (x : Int), k < ps.length → (prs ps).set (k * 2 + 1) (int x) = prs (ps.set k ((ps.getD k (0, 0)).1, x)) := by
  induction ps with
  | nil => intro k x h; simp at h
  | cons p r ih =>
    intro k x h
    cases k with
    | zero => rfl
    | succ k =>
      have := ih k x (by simpa using h)
      rw [show (k + 1) * 2 + 1 = (k * 2 + 1) + 1 + 1 by omega, prs_cons]
      simp only [List.set_cons_succ, List.getD_cons_succ]
      rw [this]; rfl
/-- An array of m one-cell elements. -/
def ArT (P : Program) (t e : TypeId) (m : Nat) : Prop := P.underlying t = some (.array m e) ∧ (∀ w, (sizeOf e).run P w = .ok 1 w) ∧ (P.info? t).map (·.size) = some m
theorem ArT.agg {P : Program} {t e : TypeId} {m : Nat} (h : ArT P t e m) : AggT P t m := ⟨.inr ⟨_, _, h.1⟩, h.2.2⟩
section
variable {P : Program} {ops : Array Oper} {Q : Exit → Act → World → Prop} {N : Nat} {C : World → Prop} {rest : List Oper} {l : Sl} {v : Value} {d : Nat}
variable {dd : Option Tmp} {ty : TypeId} {ps' : String} {af : Array Edge} {g : Option (Nat × Bool)} {x y : Operand} {t t' e : TypeId} {z : Value} {bytes n k c m : Nat} {w0 : World} {os : List Ck} {ps : List (Int × Int)} {a b : Int}
/-- An array's element, by a pointer to the array. -/
theorem y_ixb {gb o : Nat} {i : Int} {kk : IntKind} (hx : Ev l x (.pointer (some ⟨gb, o, none⟩))) (hy : Ev l y (.int kk i)) (hk : i = (c : Int)) (hT : ArT P t e m) (hc : c < m) : Ys P C N l ⟨dd, .indexAddr t x y, ty, ps', af, g⟩ (.pointer (some ⟨gb, o + c, none⟩)) := yl_of fun q w hs _ => by
  subst hk
  have h1 : P.arrayLen t = m := by simp [Program.arrayLen, hT.1]
  have h2 : P.elem t = e := by simp [Program.elem, hT.1]
  have hr := run_indexAt_array (P := P) w t ⟨gb, o, none⟩ kk (c : Int) (by rw [h1, h2]; exact hT.1)
  have hcc : (0 : Int) ≤ (c : Int) ∧ (c : Int) < (m : Int) := by omega
  have ha : (⟨gb, o, none⟩ : Addr).add c = ⟨gb, o + c, none⟩ := by rw [Addr.add_lit]
  rw [h1, h2, if_pos hcc, hT.2.1] at hr
  simp [execOp, hx N q hs, hy N q hs, hr, ha]
theorem pt_two {v : Value} {n : Nat} {xs : List Value} {w : World} (h : Rd w v 2 n xs) (hk : k < n) : ∃ ad : Addr, pt v k 2 = .pointer (some (ad.add (k * 2))) ∧ pt v (k * 2 + c) 1 = .pointer (some (ad.add (k * 2 + c))) ∧ ∀ j u, xs[j]? = some u → w.cell? (ad.add j) = some u := by
  obtain ⟨_, _, A, cc, rfl, _, _, h6⟩ := h
  obtain ⟨ad, rfl, _, hcell⟩ := h6 (by omega)
  exact ⟨ad, rfl, by simp [pt], hcell⟩
/-- A part of a pair in a slice. -/
theorem y_ixa {i : Int} {kk : IntKind} (hx : Ev l x (pt v k 2)) (hy : Ev l y (.int kk i)) (hi : i = (c : Int)) (hT : ArT P t e 2) (hr : ∀ w, C w → RP w v ps) (hlt : k < ps.length) (hc : c < 2) : Ys P C N l ⟨dd, .indexAddr t x y, ty, ps', af, g⟩ (pt v (k * 2 + c) 1) := yl_of fun q w hs hw => by
  subst hi
  obtain ⟨ad, e1, e2, _⟩ := pt_two (c := c) (hr w hw) hlt
  have h1 : P.arrayLen t = 2 := by simp [Program.arrayLen, hT.1]
  have h2 : P.elem t = e := by simp [Program.elem, hT.1]
  have hrr := run_indexAt_array (P := P) w t (ad.add (k * 2)) kk (c : Int) (by rw [h1, h2]; exact hT.1)
  have hcc : (0 : Int) ≤ (c : Int) ∧ (c : Int) < ((2 : Nat) : Int) := by omega
  have hx' := hx N q hs
  rw [e1] at hx'
  rw [e2]
  rw [h1, h2, if_pos hcc, hT.2.1] at hrr
  simp [execOp, hx', hy N q hs, hrr, addr_add_add]
theorem y_ldp {j : Nat} {u : Value} (hx : Ev l x (pt v (k * 2 + c) 1)) (hT : One P t) (hr : ∀ w, C w → RP w v ps) (hlt : k < ps.length) (hu : (prs ps)[k * 2 + c]? = some u) : Ys P C N l ⟨dd, .load t x, ty, ps', af, g⟩ u := yl_of fun q w hs hw => by
  obtain ⟨ad, _, e2, hcell⟩ := pt_two (c := c) (hr w hw) hlt
  have h1 := hcell _ u hu
  have h2 := hx N q hs
  rw [e2] at h2
  simp [execOp, h2, Instr.loadAt, Instr.sureAddr, loadVar, hT.1 w, h1]
theorem y_ldp1 (hx : Ev l x (pt v (k * 2 + 0) 1)) (hT : One P t) (hr : ∀ w, C w → RP w v ps) (hlt : k < ps.length) : Ys P C N l ⟨dd, .load t x, ty, ps', af, g⟩ (int (ps.getD k (0, 0)).1) := y_ldp (j := 0) hx hT hr hlt (prs_get ps k hlt).1
theorem y_ldp2 (hx : Ev l x (pt v (k * 2 + 1) 1)) (hT : One P t) (hr : ∀ w, C w → RP w v ps) (hlt : k < ps.length) : Ys P C N l ⟨dd, .load t x, ty, ps', af, g⟩ (int (ps.getD k (0, 0)).2) := y_ldp (j := 0) hx hT hr hlt (prs_get ps k hlt).2
/-- A pair out of a slice. -/
theorem y_ldpr (hx : Ev l x (pt v k 2)) (hT : ArT P t e 2) (hr : ∀ w, C w → RP w v ps) (hlt : k < ps.length) : Ys P C N l ⟨dd, .load t x, ty, ps', af, g⟩ (prV (ps.getD k (0, 0))) := yl_of fun q w hs hw => by
  obtain ⟨ad, e1, _, hcell⟩ := pt_two (c := 0) (hr w hw) hlt
  have h2 := hx N q hs
  rw [e1] at h2
  have hg := prs_get ps k hlt
  have hl : (loadCells (ad.add (k * 2)) 2).run P w = .ok #[int (ps.getD k (0, 0)).1, int (ps.getD k (0, 0)).2] w :=
    run_loadCells_list (P := P) w (ad.add (k * 2)) [int (ps.getD k (0, 0)).1, int (ps.getD k (0, 0)).2] (fun j u hu => by
      rw [addr_add_add]
      match j, hu with
      | 0, hu => simp at hu; subst hu; exact hcell _ _ hg.1
      | 1, hu => simp at hu; subst hu; exact hcell _ _ hg.2)
  have hagg : (isAgg t).run P w = .ok true w := by
    unfold isAgg
    rw [Sem.run_bind, run_underlying hT.1 w]
    simp
  obtain ⟨i, hi, his⟩ := Option.map_eq_some_iff.1 hT.2.2
  simp [execOp, h2, Instr.loadAt, Instr.sureAddr, loadVar, Sem.run_bind, hagg, sizeOf, typeInfo, hi, his, hl]
theorem y_bldA (hx : Ev l x (int a)) (hy : Ev l y (int b)) (h : ∀ a b w, (Instr.build t #[(0, .int .i64 a), (1, .int .i64 b)]).run P w = .ok (.agg #[.int .i64 a, .int .i64 b]) w) : Ys P C N l ⟨dd, .build t #[(0, x), (1, y)], ty, ps', af, g⟩ (prV (a, b)) := yl_of fun q w hs _ => by
  simp [execOp, hx N q hs, hy N q hs, h a b w]
/-- A part of a pair is stored. -/
theorem TL.storeP (i : Nat) {u : Int} {ps2 : List (Int × Int)} (hx : Ev l x (pt v (k * 2 + c) 1)) (hy : Ev l y (int u)) (hT : One P t) (ho : os[i]? = some (rowP e v ps)) (hlt : k < ps.length) (hc : c < 2) (h2 : (prs ps).set (k * 2 + c) (int u) = prs ps2) (h3 : ps2.length = ps.length)
    (h : TL P ops Q N (Hp w0 (os.set i (rowP e v ps2))) rest l) : TL P ops Q N (Hp w0 os) (⟨none, .store t x y, ty, ps', af, none⟩ :: rest) l := TL.raw rfl fun q w hs hw => by
  have hr := hw.get i ho
  have hx2 : q.eval x = pt v (k * 2 + c) 1 := hx N q hs
  rcases hr.2 with ⟨_, h0⟩ | ⟨b', cap, cur, rfl, hc0, hb, hg, hnc, hcm, hcs, htk⟩
  · omega
  · have hpl := prs_len ps
    have hrw : w.ownsRow w0.heap.size e 2 (.slice (some ⟨b', 0, none⟩) ps.length cap) ps.length (prs ps) := ⟨hr.1, .inr ⟨b', cap, cur, rfl, hb, hg, hnc, hcm, hcs, htk⟩⟩
    have hcl : w.cell? ⟨b', k * 2 + c, none⟩ = (prs ps)[k * 2 + c]? := World.ownsRow.cellAt hrw (k * 2 + c) (by omega)
    rw [List.getElem?_eq_getElem (by omega)] at hcl
    have hf : w.frozen? ⟨b', k * 2 + c, none⟩ = false := World.ownsRow.frozenAt hrw (k * 2 + c)
    obtain ⟨s1, s2⟩ := World.ownsRow.stored hrw (k * 2 + c) (int u)
    rw [h2] at s1
    have hadd : (⟨b', 0, none⟩ : Addr).add (k * 2 + c) = ⟨b', k * 2 + c, none⟩ := by rw [Addr.add_lit]; simp
    have hrun := run_storeAt (P := P) (t := t) (u := int u) hT hcl hf rfl
    simp only [pt, Nat.mul_one, hadd] at hx2
    unfold Oper.wp
    simp only [execOp, hx2, hy N q hs, Sem.run_bind, hrun, Result.andThen_ok, Sem.run_pure, Oper.upon]
    exact h _ _ hs (hw.turn_at i ho s2.os s2.tape s2.output s2.size (fun j hj hne => s2.block j hj (fun e => hne ((own_obk hc0).trans e.symm))) (by show Own _ _ _ _ _ _ _; rw [h3]; exact Own.of s1) (fun j hj => .inl hj))
theorem TL.storeP1 (i : Nat) {u : Int} (hx : Ev l x (pt v (k * 2 + 0) 1)) (hy : Ev l y (int u)) (hT : One P t) (ho : os[i]? = some (rowP e v ps)) (hlt : k < ps.length)
    (h : TL P ops Q N (Hp w0 (os.set i (rowP e v (ps.set k (u, (ps.getD k (0, 0)).2))))) rest l) : TL P ops Q N (Hp w0 os) (⟨none, .store t x y, ty, ps', af, none⟩ :: rest) l := TL.storeP i hx hy hT ho hlt (by omega) (prs_set1 ps k u hlt) (by simp) h
theorem TL.storeP2 (i : Nat) {u : Int} (hx : Ev l x (pt v (k * 2 + 1) 1)) (hy : Ev l y (int u)) (hT : One P t) (ho : os[i]? = some (rowP e v ps)) (hlt : k < ps.length)
    (h : TL P ops Q N (Hp w0 (os.set i (rowP e v (ps.set k ((ps.getD k (0, 0)).1, u))))) rest l) : TL P ops Q N (Hp w0 os) (⟨none, .store t x y, ty, ps', af, none⟩ :: rest) l := TL.storeP i hx hy hT ho hlt (by omega) (prs_set2 ps k u hlt) (by simp) h
/-- A pair is stored. -/
theorem TL.storePr (i : Nat) {u : Int × Int} (hx : Ev l x (pt v k 2)) (hy : Ev l y (prV u)) (hT : ArT P t t' 2) (ho : os[i]? = some (rowP e v ps)) (hlt : k < ps.length)
    (h : TL P ops Q N (Hp w0 (os.set i (rowP e v (ps.set k u)))) rest l) : TL P ops Q N (Hp w0 os) (⟨none, .store t x y, ty, ps', af, none⟩ :: rest) l := TL.raw rfl fun q w hs hw => by
  have hr := hw.get i ho
  have hx2 : q.eval x = pt v k 2 := hx N q hs
  rcases hr.2 with ⟨_, h0⟩ | ⟨b', cap, cur, rfl, hc0, hb, hg, hnc, hcm, hcs, htk⟩
  · omega
  · have hpl := prs_len ps
    have hrw : w.ownsRow w0.heap.size e 2 (.slice (some ⟨b', 0, none⟩) ps.length cap) ps.length (prs ps) := ⟨hr.1, .inr ⟨b', cap, cur, rfl, hb, hg, hnc, hcm, hcs, htk⟩⟩
    have hcl : ∀ j, j < ps.length * 2 → (w.cell? ⟨b', j, none⟩).isSome = true ∧ w.frozen? ⟨b', j, none⟩ = false := fun j hj => by
      have h1 := World.ownsRow.cellAt hrw j hj
      rw [List.getElem?_eq_getElem (by omega)] at h1
      exact ⟨by rw [h1]; rfl, World.ownsRow.frozenAt hrw j⟩
    obtain ⟨s1, s2⟩ := World.ownsRow.stored hrw (k * 2) (int u.1)
    rw [prs_set1 ps k u.1 hlt] at s1
    have hlt2 : k < (ps.set k (u.1, (ps.getD k (0, 0)).2)).length := by simpa using hlt
    obtain ⟨s3, s4⟩ := World.ownsRow.stored s1 (k * 2 + 1) (int u.2)
    rw [prs_set2 _ k u.2 hlt2] at s3
    have e3 : (ps.set k (u.1, (ps.getD k (0, 0)).2)).set k (((ps.set k (u.1, (ps.getD k (0, 0)).2)).getD k (0, 0)).1, u.2) = ps.set k u := by simp [hlt]
    rw [e3] at s3
    have hadd : (⟨b', 0, none⟩ : Addr).add (k * 2) = ⟨b', k * 2, none⟩ := by rw [Addr.add_lit]; simp
    have hst := run_storeCells_cells (P := P) b' (k * 2) [int u.1, int u.2] 0 w (fun j hj => (hcl _ (by simp at hj; omega)).1) (fun j hj => (hcl _ (by simp at hj; omega)).2) (by intro u' hu'; simp at hu'; rcases hu' with rfl | rfl <;> rfl)
    simp only [Nat.add_zero] at hst
    have hsc : w.setCells b' (k * 2) [int u.1, int u.2] = (w.setCell ⟨b', k * 2, none⟩ (int u.1)).setCell ⟨b', k * 2 + 1, none⟩ (int u.2) := rfl
    rw [hsc] at hst
    obtain ⟨ii, hi, his⟩ := Option.map_eq_some_iff.1 hT.2.2
    have hrun : (Instr.storeAt t (.pointer (some ⟨b', k * 2, none⟩)) (prV u)).run P w = .ok () ((w.setCell ⟨b', k * 2, none⟩ (int u.1)).setCell ⟨b', k * 2 + 1, none⟩ (int u.2)) := by
      simp [Instr.storeAt, Instr.sureAddr, storeVar, sizeOf, typeInfo, hi, his, Value.cells, hst]
    simp only [pt, hadd] at hx2
    unfold Oper.wp
    simp only [execOp, hx2, hy N q hs, Sem.run_bind, hrun, Result.andThen_ok, Sem.run_pure, Oper.upon]
    refine h _ _ hs (hw.turn_at i ho (s4.os.trans s2.os) (s4.tape.trans s2.tape) (s4.output.trans s2.output) (Nat.le_trans s2.size s4.size) (fun j hj hne => ?_) (by show Own _ _ _ _ _ _ _; rw [List.length_set]; exact Own.of s3) (fun j hj => .inl hj))
    have hne' : some b' ≠ some j := fun e => hne ((own_obk hc0).trans e)
    rw [s4.block j (Nat.lt_of_lt_of_le hj s2.size) (fun e => hne' e.symm), s2.block j hj (fun e => hne' e.symm)]
theorem flat_prs (ps : List (Int × Int)) : (ps.map prV).flatMap (·.cells.toList) = prs ps := by
  induction ps with
  | nil => rfl
  | cons p r ih => rw [prs_cons, List.map_cons, List.flatMap_cons, ih]; rfl
theorem TL.buildP {parts : List (Nat × Operand)} {zs : List Operand} {ps : List (Int × Int)} (hT : SlT P t e z 2 bytes) (hz : parts = List.zip (List.range' 0 (ps.map prV).length) zs) (hv : Evs l zs (ps.map prV)) (hn : n = ps.length) (hsm : n ≤ 1000) (hb : Nat.blt d N = true)
    (h : ∀ v', TL P ops Q N (Hp w0 (rowP e v' ps :: os)) rest ((d, v') :: l)) :
    TL P ops Q N (Hp w0 os) (⟨some d, .buildSlice t n parts.toArray, ty, ps', af, none⟩ :: rest) l :=
  TL.buildSlice hT hz hv (by intro u hu; obtain ⟨q, _, rfl⟩ := List.mem_map.1 hu; rfl) (by simp [hn]) (by omega) hb (fun v' => by
    rw [flat_prs, hn]; exact h v')
theorem oc_prs (ps : List (Int × Int)) : ∀ u ∈ prs ps, u.oneCell' = true := by
  intro u hu
  unfold prs at hu
  obtain ⟨p, _, hp⟩ := List.mem_flatMap.1 hu
  simp at hp
  rcases hp with rfl | rfl <;> rfl
theorem TL.appendP (i : Nat) {u : Value} {zs qs : List (Int × Int)} (hx : Ev l x v) (hy : Ev l y u) (ho : os[i]? = some (rowP e v zs)) (hT : SlT P t e z 2 16) (hr : ∀ w, Hp w0 os w → RP w u qs)
    (hm : zs.length + qs.length ≤ 8796093022208) (hb : Nat.blt d N = true) (h : ∀ v', TL P ops Q N (Hp w0 (os.set i (rowP e v' (zs ++ qs)))) rest ((d, v') :: l)) :
    TL P ops Q N (Hp w0 os) (⟨some d, .call { callee := .builtin .append, args := #[x, y], argTypes := #[t, t] }, ty, ps', af, none⟩ :: rest) l :=
  TL.append i hx hy ho hT hr (oc_prs _) (by omega) (by simp [maxLen]; omega) hb fun v' => by
    have := h v'
    simp only [rowP, List.length_append, prs_app] at this
    exact this
end
end Go.Proofs.Ytcmhgkcifejgcaa
