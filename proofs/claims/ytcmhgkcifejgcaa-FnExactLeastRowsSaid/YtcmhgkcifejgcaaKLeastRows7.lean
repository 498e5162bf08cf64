/-
  Part of a proof: rules of the walk, plain functions and their laws, walks. No condition.
-/
import Derived.Test.YtcmhgkcifejgcaaKLeastRows6
import Derived.Maps.RangeRun
import Derived.Maps.Keyed
import Derived.DeepKeys4
import Derived.Carry
namespace Go.Proofs.Ytcmhgkcifejgcaa
set_option linter.unusedVariables false
set_option linter.unusedSimpArgs false
open Go Go.RowKit
set_option linter.unusedVariables false
set_option linter.unusedSimpArgs false
abbrev K3 := Int × Int × Int
/-- A key's value. -/
def key3 (k : K3) : Value := .agg #[int k.1, int k.2.1, int k.2.2]
theorem key3_inj {k k' : K3} (h : key3 k = key3 k') : k = k' := by
  unfold key3 at h
  injection h with h
  injection h with h
  injection h with h1 h
  injection h with h2 h
  injection h with h3 h
  injection h1 with _ h1
  injection h2 with _ h2
  injection h3 with _ h3
  exact Prod.ext h1 (Prod.ext h2 h3)
/-- A key of small numbers. -/
def Ks3 (k : K3) : Prop := (0 ≤ k.1 ∧ k.1 ≤ 99) ∧ (0 ≤ k.2.1 ∧ k.2.1 ≤ 99) ∧ (0 ≤ k.2.2 ∧ k.2.2 ≤ 99)
theorem laidOut3 : laidOutB Try.prog = true := by kernel_rfl
theorem wide3 : (match Try.prog.underlying 117 with | some (.array _ _) | some (.struct _) => true | _ => false) = true := by kernel_rfl
set_option maxRecDepth 100000 in
theorem klaw : WideMaps.KeyLaw Try.prog 117 := deep_law_laid laidOut3 (m := 2) (by omega) (by decide +kernel) (by kernel_rfl) wide3
theorem key_lits {q : Int} (h : 0 ≤ q ∧ q ≤ 99) (d : Nat) : Try.prog.keyLits (d + 1) 3 [int q] = some [.int .i64 q] := by
  unfold Program.keyLits
  rw [Try.underlying3]
  have hw : (Lit.int .i64 q).wf = true := by
    have m1 : IntKind.i64.min = -9223372036854775808 := by decide +kernel
    have m2 : IntKind.i64.max = 9223372036854775807 := by decide +kernel
    unfold Lit.wf
    simp [m1, m2]
    omega
  simp [hw]
theorem key_some {k : K3} (h : Ks3 k) : ∃ l, keyOf Try.prog 117 (key3 k) = some l := by
  obtain ⟨h1, h2, h3⟩ := h
  have hs : Try.prog.types.size = (Try.prog.types.size - 1) + 1 := by decide +kernel
  unfold keyOf
  rw [Try.underlying117]
  dsimp only
  have e1 : (Try.prog.keyType 117 && (key3 k).formed Try.prog 117) = true := by
    rw [show Try.prog.keyType 117 = true by kernel_rfl]
    unfold key3 Value.formed
    rw [Try.underlying117]
    kernel_rfl
  rw [if_pos e1]
  have hc : Try.prog.cellsOf 117 = 3 := by kernel_rfl
  have hi : Try.prog.cellsOf 3 = 1 := by kernel_rfl
  unfold Program.keyLits
  rw [Try.underlying117]
  dsimp only
  rw [hs]
  have hcs : (key3 k).cells.toList = [int k.1, int k.2.1, int k.2.2] := rfl
  rw [hcs, hc, hi]
  simp [List.range, List.range.loop, key_lits h1, key_lits h2, key_lits h3]
/-- What a map's block holds: these entries, in order of their birth. -/
structure Gm (es : Array MapEntry) (clock : Nat) (L : List (K3 × Int)) : Prop where
  keys : es.toList.map (·.key) = L.map fun p => key3 p.1
  vals : es.toList.map (·.val) = L.map fun p => int p.2
  nd : (L.map (·.1)).Nodup
  sm : ∀ p ∈ L, Ks3 p.1
  bn : (es.toList.map (·.born)).Nodup
  bl : ∀ x ∈ es.toList, x.born < clock
theorem Gm.len {es : Array MapEntry} {clock : Nat} {L : List (K3 × Int)} (h : Gm es clock L) : es.toList.length = L.length := by
  have := congrArg List.length h.keys
  simpa using this
theorem Gm.at {es : Array MapEntry} {clock : Nat} {L : List (K3 × Int)} (h : Gm es clock L) {j : Nat} {e : MapEntry} (hj : es.toList[j]? = some e) : ∃ p, L[j]? = some p ∧ e.key = key3 p.1 ∧ e.val = int p.2 := by
  have hl := h.len
  have hjl : j < es.toList.length := (List.getElem?_eq_some_iff.1 hj).1
  have h1 := congrArg (fun l => l[j]?) h.keys
  have h2 := congrArg (fun l => l[j]?) h.vals
  simp only [List.getElem?_map] at h1 h2
  rw [hj] at h1 h2
  cases hL : L[j]? with
  | none => rw [hL] at h1; cases h1
  | some p =>
    rw [hL] at h1 h2
    exact ⟨p, rfl, by simpa using h1, by simpa using h2⟩
theorem Gm.keyed {es : Array MapEntry} {clock : Nat} {L : List (K3 × Int)} (h : Gm es clock L) : ∀ e ∈ es.toList, ∃ l, keyOf Try.prog 117 e.key = some l := by
  intro e he
  obtain ⟨j, hj, hje⟩ := List.getElem_of_mem he
  obtain ⟨p, h1, h2, _⟩ := h.at (j := j) (e := e) (by rw [List.getElem?_eq_getElem hj, hje])
  rw [h2]
  exact key_some (h.sm p (List.mem_of_getElem? h1))
/-- The value at a key. -/
def lk (L : List (K3 × Int)) (k : K3) : Option Int := (L.find? fun p => decide (p.1 = k)).map (·.2)
theorem lk_none {L : List (K3 × Int)} {k : K3} (h : ∀ p ∈ L, p.1 ≠ k) : lk L k = none := by
  unfold lk
  rw [List.find?_eq_none.2 (fun p hp => by simpa using h p hp)]
  rfl
theorem lk_some {L : List (K3 × Int)} (hn : (L.map (·.1)).Nodup) {p : K3 × Int} (hp : p ∈ L) : lk L p.1 = some p.2 := by
  induction L with
  | nil => cases hp
  | cons q r ih =>
    rw [List.map_cons, List.nodup_cons] at hn
    unfold lk
    rw [List.find?_cons]
    rcases List.mem_cons.1 hp with e | e
    · subst e; simp
    · have : q.1 ≠ p.1 := fun e2 => hn.1 (by rw [e2]; exact List.mem_map_of_mem e)
      rw [decide_eq_false this]
      exact ih hn.2 e
/-- A map's chunk. -/
abbrev mapCk (b : Nat) (L : List (K3 × Int)) : Ck := .objs [b] (fun l => ∃ es clock, l = [some (.map es clock)] ∧ Gm es clock L)
theorem map_get {w0 w : World} {os : List Ck} (hw : Hp w0 os w) (i : Nat) {b : Nat} {L : List (K3 × Int)} (ho : os[i]? = some (mapCk b L)) : ∃ es clock, w.heap[b]? = some (.map es clock) ∧ Gm es clock L := by
  obtain ⟨_, es, clock, h1, h2⟩ := hw.get i ho
  simp only [List.map_cons, List.map_nil, List.cons.injEq, and_true] at h1
  exact ⟨es, clock, h1, h2⟩
section
variable {ops : Array Oper} {Q : Exit → Act → World → Prop} {N : Nat} {C : World → Prop} {rest : List Oper} {l : Sl} {v : Value} {d : Nat}
variable {dd : Option Tmp} {ty : TypeId} {ps' : String} {af : Array Edge} {g : Option (Nat × Bool)} {x y z : Operand} {t e : TypeId} {w0 : World} {os : List Ck}
theorem TL.makeMap (hb : Nat.blt d N = true) (h : ∀ b, TL Try.prog ops Q N (Hp w0 (mapCk b [] :: os)) rest ((d, .map (some b)) :: l)) :
    TL Try.prog ops Q N (Hp w0 os) (⟨some d, .makeMap t none, ty, ps', af, none⟩ :: rest) l := TL.raw rfl fun a w hs hw => by
  have hnew : Hp w0 (mapCk w.heap.size [] :: os) (w.alloc (.map #[] 0)) := by
    refine hw.new ((Below.refl _ _).alloc (Nat.le_refl _) _) ⟨fun q hq => ?_, #[], 0, ?_, ⟨rfl, rfl, by simp, by simp, by simp, by simp⟩⟩
    · rw [List.mem_singleton.1 hq]; exact ⟨Nat.le_refl _, by simp⟩
    · show [(w.alloc (.map #[] 0)).heap[w.heap.size]?] = _
      rw [heap_alloc_new]
  unfold Oper.wp
  simp only [execOp, Option.map_none, run_makeMap, Sem.run_bind, Result.andThen_ok, Sem.run_pure, Oper.upon]
  exact h w.heap.size _ _ (hs.put hb _) hnew
theorem y_mlook (i : Nat) {b : Nat} {L : List (K3 × Int)} {k : K3} (hx : Ev l x (.map (some b))) (hy : Ev l y (key3 k)) (hk : Ks3 k) (ho : os[i]? = some (mapCk b L)) :
    Ys Try.prog (Hp w0 os) N l ⟨dd, .lookup 118 x y true, ty, ps', af, g⟩ (.tuple #[int ((lk L k).getD 0), .bool (lk L k).isSome]) := yl_of fun a w hs hw => by
  obtain ⟨es, clock, hb, hG⟩ := map_get hw i ho
  obtain ⟨kl, hkey⟩ := key_some hk
  have hz : (zeroValue 3).run Try.prog w = .ok (int 0) w := by kernel_rfl
  have ht := Try.underlying118
  rcases klaw.find w hkey es.toList hG.keyed with ⟨h1, h2⟩ | ⟨j, e0, h1, h2, h3⟩
  · have hn : lk L k = none := lk_none fun p hp hpk => by
      obtain ⟨j, hj, hjp⟩ := List.getElem_of_mem hp
      have hj2 : j < es.toList.length := by rw [hG.len]; exact hj
      obtain ⟨p', q1, q2, _⟩ := hG.at (j := j) (e := es.toList[j]) (List.getElem?_eq_getElem hj2)
      rw [List.getElem?_eq_getElem hj, hjp] at q1
      obtain rfl := Option.some.inj q1
      exact h2 _ (List.getElem_mem hj2) (by rw [q2, hpk])
    rw [hn]
    simp [execOp, hx N a hs, hy N a hs, Instr.lookup, run_underlying ht, MapKept.run_getObj_map hb, klaw.check w _ hkey, h1, hz, Result.andThen]
  · obtain ⟨p, q1, q2, q3⟩ := hG.at h2
    have hpk : p.1 = k := key3_inj (by rw [← q2, h3])
    have hs2 : lk L k = some p.2 := by rw [← hpk]; exact lk_some hG.nd (List.mem_of_getElem? q1)
    rw [hs2]
    simp [execOp, hx N a hs, hy N a hs, Instr.lookup, run_underlying ht, MapKept.run_getObj_map hb, klaw.check w _ hkey, h1, q3, Result.andThen]
/-- A value laid at a key. -/
def mset (L : List (K3 × Int)) (k : K3) (v : Int) : List (K3 × Int) := if (lk L k).isSome then L.map (fun p => if p.1 = k then (k, v) else p) else L ++ [(k, v)]
theorem setBlock_size (w : World) (b : Nat) (o : Obj) : (ChangeMaps.setBlock w b o).heap.size = w.heap.size := by simp [ChangeMaps.setBlock]
theorem setBlock_at {w : World} {b : Nat} (h : b < w.heap.size) (o : Obj) : (ChangeMaps.setBlock w b o).heap[b]? = some o := by simp [ChangeMaps.setBlock, h]
theorem setBlock_ne {w : World} {b k : Nat} (h : k ≠ b) (o : Obj) : (ChangeMaps.setBlock w b o).heap[k]? = w.heap[k]? := by
  simp only [ChangeMaps.setBlock]
  rw [Array.getElem?_setIfInBounds_ne (Ne.symm h)]
theorem map_turn {w : World} {i b : Nat} {L L' : List (K3 × Int)} {es' : Array MapEntry} {clock' : Nat} (hw : Hp w0 os w) (ho : os[i]? = some (mapCk b L)) (hG : Gm es' clock' L') : Hp w0 (os.set i (mapCk b L')) (ChangeMaps.setBlock w b (.map es' clock')) := by
  have h0 := hw.get i ho
  have hb := h0.1 b (by simp)
  refine hw.turn_at i ho rfl rfl rfl (by rw [setBlock_size]; exact Nat.le_refl _) (fun k _ hne => setBlock_ne (fun e => hne (by rw [e]; exact List.mem_singleton.2 rfl)) _) ⟨fun q hq => ?_, es', clock', ?_, hG⟩ (fun k hk => .inl hk)
  · rw [List.mem_singleton.1 hq, setBlock_size]; exact hb
  · simp [setBlock_at hb.2]
theorem find_at {L : List (K3 × Int)} (hn : (L.map (·.1)).Nodup) {j : Nat} {p : K3 × Int} (hj : L[j]? = some p) (v : Int) : L.map (fun q => if q.1 = p.1 then (p.1, v) else q) = L.modify j (fun _ => (p.1, v)) := by
  induction L generalizing j with
  | nil => simp at hj
  | cons q r ih =>
    rw [List.map_cons, List.nodup_cons] at hn
    cases j with
    | zero =>
      have : q = p := by simpa using hj
      subst this
      rw [List.map_cons, if_pos rfl, List.modify_zero_cons]
      congr 1
      have : ∀ x ∈ r, (if x.1 = q.1 then (q.1, v) else x) = x := fun x hx => if_neg (fun e => hn.1 (by rw [← e]; exact List.mem_map_of_mem hx))
      exact (List.map_congr_left this).trans (List.map_id' r)
    | succ j =>
      have hj2 : r[j]? = some p := by simpa using hj
      have : q.1 ≠ p.1 := fun e => hn.1 (by rw [e]; exact List.mem_map_of_mem (List.mem_of_getElem? hj2))
      rw [List.map_cons, if_neg this, List.modify_succ_cons, ih hn.2 hj2]
theorem keys_mod {L : List (K3 × Int)} {j : Nat} {p : K3 × Int} (hj : L[j]? = some p) (v : Int) {β : Type} (f : K3 → β) : (L.modify j (fun _ => (p.1, v))).map (fun q => f q.1) = L.map (fun q => f q.1) := by
  refine List.ext_getElem? fun i => ?_
  simp only [List.getElem?_map, List.getElem?_modify]
  by_cases e : j = i
  · subst e; rw [hj]; simp
  · simp [e]
theorem TL.mput (i : Nat) {b : Nat} {L : List (K3 × Int)} {k : K3} {v : Int} {op : Op} (hop : op = .mapUpdate 118 x y z ∨ op = .insert 118 x y z) (hx : Ev l x (.map (some b))) (hy : Ev l y (key3 k)) (hz : Ev l z (int v)) (hk : Ks3 k) (ho : os[i]? = some (mapCk b L))
    (h : TL Try.prog ops Q N (Hp w0 (os.set i (mapCk b (mset L k v)))) rest l) : TL Try.prog ops Q N (Hp w0 os) (⟨none, op, ty, ps', af, none⟩ :: rest) l := TL.raw rfl fun a w hs hw => by
  obtain ⟨es, clock, hb, hG⟩ := map_get hw i ho
  obtain ⟨kl, hkey⟩ := key_some hk
  have ht := Try.underlying118
  have key : ∃ es' clock', (Instr.mapUpdate 118 (.map (some b)) (key3 k) (int v)).run Try.prog w = .ok () (ChangeMaps.setBlock w b (.map es' clock')) ∧ Gm es' clock' (mset L k v) := by
    rcases klaw.find w hkey es.toList hG.keyed with ⟨h1, h2⟩ | ⟨j, e0, h1, h2, h3⟩
    · have hn : ∀ p ∈ L, p.1 ≠ k := fun p hp hpk => by
        obtain ⟨j, hj, hjp⟩ := List.getElem_of_mem hp
        have hj2 : j < es.toList.length := by rw [hG.len]; exact hj
        obtain ⟨p', q1, q2, _⟩ := hG.at (j := j) (e := es.toList[j]) (List.getElem?_eq_getElem hj2)
        rw [List.getElem?_eq_getElem hj, hjp] at q1
        obtain rfl := Option.some.inj q1
        exact h2 _ (List.getElem_mem hj2) (by rw [q2, hpk])
      have hm : mset L k v = L ++ [(k, v)] := by unfold mset; rw [lk_none hn]; rfl
      refine ⟨es.push ⟨key3 k, int v, clock⟩, clock + 1, ?_, ?_⟩
      · simp [Instr.mapUpdate, run_underlying ht, MapKept.run_getObj_map hb, klaw.check w false hkey, h1, MapKept.run_setObj_map _ hb, Result.andThen, ChangeMaps.setBlock]
      · rw [hm]
        refine ⟨by simp [hG.keys], by simp [hG.vals], ?_, ?_, ?_, ?_⟩
        · rw [List.map_append, List.nodup_append]
          refine ⟨hG.nd, by simp, fun a ha c hc e => ?_⟩
          obtain ⟨p, hp, rfl⟩ := List.mem_map.1 ha
          have : c = k := by simpa using hc
          exact hn p hp (e.trans this)
        · intro p hp
          rcases List.mem_append.1 hp with e | e
          · exact hG.sm p e
          · rw [List.mem_singleton.1 e]; exact hk
        · rw [Array.toList_push, List.map_append, List.nodup_append]
          refine ⟨hG.bn, by simp, fun a ha c hc e => ?_⟩
          obtain ⟨x', hx', rfl⟩ := List.mem_map.1 ha
          have h5 := hG.bl x' hx'
          have : c = clock := by simpa using hc
          omega
        · intro x' hx'
          rw [Array.toList_push] at hx'
          rcases List.mem_append.1 hx' with e | e
          · have := hG.bl x' e; omega
          · rw [List.mem_singleton.1 e]; show clock < clock + 1; omega
    · obtain ⟨p, q1, q2, q3⟩ := hG.at h2
      have hpk : p.1 = k := key3_inj (by rw [← q2, h3])
      have hm : mset L k v = L.modify j (fun _ => (p.1, v)) := by
        unfold mset
        rw [← hpk, lk_some hG.nd (List.mem_of_getElem? q1)]
        exact find_at hG.nd q1 v
      have hmod : (es.modify j fun e => { e with key := key3 k, val := int v }).toList = es.toList.modify j (fun e => { e with key := key3 k, val := int v }) := by simp
      refine ⟨es.modify j fun e => { e with key := key3 k, val := int v }, clock, ?_, ?_⟩
      · have hj' : es[j]? = some e0 := by simpa using h2
        simp [Instr.mapUpdate, run_underlying ht, MapKept.run_getObj_map hb, klaw.check w false hkey, h1, MapKept.run_setObj_map _ hb, Result.andThen, ChangeMaps.setBlock, hj', h3, klaw.stays w hkey]
      · rw [hm]
        refine ⟨?_, ?_, ?_, ?_, ?_, ?_⟩
        · rw [keys_mod q1 v key3, hmod, ← hG.keys]
          refine List.ext_getElem? fun i' => ?_
          simp only [List.getElem?_map, List.getElem?_modify]
          by_cases e : j = i'
          · subst e; rw [h2]; simp [h3]
          · simp [e]
        · rw [hmod]
          refine List.ext_getElem? fun i' => ?_
          have h6 := congrArg (fun l => l[i']?) hG.vals
          simp only [List.getElem?_map, List.getElem?_modify] at h6 ⊢
          by_cases e : j = i'
          · subst e; rw [h2, q1]; simp
          · simp [e]; simpa using h6
        · have := keys_mod q1 v (fun q : K3 => q)
          rw [this]; exact hG.nd
        · intro q hq
          obtain ⟨i', hi', e⟩ := List.getElem_of_mem hq
          have hq2 := List.getElem?_eq_getElem hi'
          rw [e, List.getElem?_modify] at hq2
          by_cases e2 : j = i'
          · subst e2; rw [q1] at hq2
            have : q = (p.1, v) := by simpa using hq2.symm
            rw [this]; exact hG.sm p (List.mem_of_getElem? q1)
          · have h7 : L[i']? = some q := by simpa [e2] using hq2
            exact hG.sm q (List.mem_of_getElem? h7)
        · have : (es.modify j fun e => { e with key := key3 k, val := int v }).toList.map (·.born) = es.toList.map (·.born) := by
            rw [hmod]
            refine List.ext_getElem? fun i' => ?_
            simp only [List.getElem?_map, List.getElem?_modify]
            by_cases e : j = i'
            · subst e; rw [h2]; simp
            · simp [e]
          rw [this]; exact hG.bn
        · intro x' hx'
          rw [hmod] at hx'
          obtain ⟨i', hi', e⟩ := List.getElem_of_mem hx'
          have hq2 := List.getElem?_eq_getElem hi'
          rw [e, List.getElem?_modify] at hq2
          by_cases e2 : j = i'
          · subst e2; rw [h2] at hq2
            have : x' = { e0 with key := key3 k, val := int v } := by simpa using hq2.symm
            rw [this]; exact hG.bl e0 (List.mem_of_getElem? h2)
          · have h7 : es.toList[i']? = some x' := by simpa [e2] using hq2
            exact hG.bl x' (List.mem_of_getElem? h7)
  obtain ⟨es', clock', hrun, hG'⟩ := key
  unfold Oper.wp
  rcases hop with rfl | rfl
  · simp only [execOp, hx N a hs, hy N a hs, hz N a hs, Sem.run_bind, hrun, Result.andThen_ok, Sem.run_pure, Oper.upon]
    exact h _ _ hs (map_turn hw ho hG')
  · simp only [execOp, hx N a hs, hy N a hs, hz N a hs, Sem.run_bind, hrun, Result.andThen_ok, Sem.run_pure, Oper.upon]
    exact h _ _ hs (map_turn hw ho hG')
end
end Go.Proofs.Ytcmhgkcifejgcaa
namespace Go.Proofs.Ytcmhgkcifejgcaa
set_option linter.unusedVariables false
set_option linter.unusedSimpArgs false
open Go Go.RowKit
set_option linter.unusedVariables false
set_option linter.unusedSimpArgs false
def pad (s : List Int) : K3 := (s.getD 0 0, s.getD 1 0, s.getD 2 0)
def unp (n : Nat) (k : K3) : List Int := [k.1, k.2.1, k.2.2].take n
structure Gr (n : Nat) (s : List Int) : Prop where
  l : s.length = n
  p : Plc s
  u : Up s
theorem unp_pad {n : Nat} {s : List Int} (h3 : n ≤ 3) (hl : s.length = n) : unp n (pad s) = s := by
  unfold unp pad
  match s, hl with
  | [], hl => simp at hl; subst hl; rfl
  | [a], hl => simp at hl; subst hl; rfl
  | [a, b], hl => simp at hl; subst hl; rfl
  | [a, b, c], hl => simp at hl; subst hl; rfl
  | a :: b :: c :: d :: r, hl => simp at hl; omega
theorem ks_pad {s : List Int} (h : Plc s) : Ks3 (pad s) := ⟨h 0, h 1, h 2⟩
theorem gr_move {n : Nat} {s : List Int} (h : Gr n s) {i : Nat} {r : Int} (hr : 0 ≤ r ∧ r ≤ 99) : Gr n (sortI (s.set i r)) :=
  ⟨by rw [sortI_length, List.length_set]; exact h.l, plc_sortI h.p hr, sortI_up _⟩
theorem lk_mem {L : List (K3 × Int)} {k : K3} {c : Int} (h : lk L k = some c) : (k, c) ∈ L := by
  unfold lk at h
  obtain ⟨p, h1, h2⟩ := Option.map_eq_some_iff.1 h
  have h3 := List.mem_of_find?_eq_some h1
  have h4 := List.find?_some h1
  have h5 : p.1 = k := by simpa using h4
  have : p = (k, c) := Prod.ext h5 h2
  rw [← this]; exact h3
theorem mset_mem {L : List (K3 × Int)} {k : K3} {v : Int} {p : K3 × Int} (h : p ∈ mset L k v) : p ∈ L ∨ p = (k, v) := by
  unfold mset at h
  split at h
  · obtain ⟨q, hq, e⟩ := List.mem_map.1 h
    split at e
    · exact .inr e.symm
    · subst e; exact .inl hq
  · rcases List.mem_append.1 h with h | h
    · exact .inl h
    · exact .inr (List.mem_singleton.1 h)
theorem lk_map (L : List (K3 × Int)) (k k' : K3) (v : Int) : lk (L.map (fun p => if p.1 = k then (k, v) else p)) k' = if k' = k then (lk L k).map (fun _ => v) else lk L k' := by
  induction L with
  | nil => unfold lk; simp
  | cons q r ih =>
    unfold lk at *
    rw [List.map_cons, List.find?_cons, List.find?_cons, List.find?_cons]
    by_cases h1 : q.1 = k
    · rw [if_pos h1]
      by_cases h2 : k' = k
      · subst h2; simp [h1]
      · rw [if_neg h2] at ih ⊢
        rw [decide_eq_false (fun e => h2 e.symm), decide_eq_false (fun e => h2 (by rw [← e, h1]))]
        exact ih
    · rw [if_neg h1]
      by_cases h2 : k' = k
      · subst h2
        rw [if_pos rfl] at ih ⊢
        rw [decide_eq_false h1]
        exact ih
      · rw [if_neg h2] at ih ⊢
        by_cases h3 : q.1 = k'
        · rw [decide_eq_true h3]
        · rw [decide_eq_false h3]; exact ih
theorem lk_app (L : List (K3 × Int)) (k k' : K3) (v : Int) : lk (L ++ [(k, v)]) k' = (lk L k').or (if k = k' then some v else none) := by
  unfold lk
  rw [List.find?_append]
  cases h : List.find? (fun p => decide (p.1 = k')) L with
  | some p => rfl
  | none =>
    by_cases e : k = k'
    · simp [e]
    · simp [e]
theorem lk_mset (L : List (K3 × Int)) (k k' : K3) (v : Int) : lk (mset L k v) k' = if k' = k then some v else lk L k' := by
  unfold mset
  cases h : lk L k with
  | some c =>
    rw [show (some c).isSome = true from rfl, if_pos rfl, lk_map, h]
    rfl
  | none =>
    rw [show (none : Option Int).isSome = false from rfl, if_neg (by simp), lk_app]
    by_cases e : k' = k
    · subst e; rw [h]; simp
    · rw [if_neg e, if_neg (fun e2 => e e2.symm)]
      cases lk L k' <;> rfl
variable {row reqs : List Int}
/-- An entry of the map of round t. -/
def Ea (row reqs : List Int) (t : Nat) (p : K3 × Int) : Prop := ∃ s, Gr row.length s ∧ p.1 = pad s ∧ Vl reqs row 0 ≤ p.2 + Vl reqs s t ∧ 0 ≤ p.2 ∧ p.2 ≤ 99 * (t : Int)
structure Lm (row reqs : List Int) (t : Nat) (L : List (K3 × Int)) : Prop where
  a : ∀ p ∈ L, Ea row reqs t p
  e : ∃ p ∈ L, ∃ s, Gr row.length s ∧ p.1 = pad s ∧ p.2 + Vl reqs s t = Vl reqs row 0
/-- An entry's moves up to an index have been laid. -/
def Dn3 (row reqs : List Int) (t : Nat) (G : List (K3 × Int)) (p : K3 × Int) (n : Nat) : Prop :=
  ∀ i, i < n → ∃ c, lk G (pad (sortI ((unp row.length p.1).set i (reqs.getD t 0)))) = some c ∧ c ≤ p.2 + ab ((unp row.length p.1).getD i 0 - reqs.getD t 0)
structure Mk (row reqs : List Int) (t : Nat) (L : List (K3 × Int)) (D : List K3) (G : List (K3 × Int)) : Prop where
  a : ∀ p ∈ G, Ea row reqs (t + 1) p
  d : ∀ p ∈ L, p.1 ∈ D → Dn3 row reqs t G p row.length
theorem lm_start (h : LrOk row reqs) (hu : Up row) : Lm row reqs 0 [(pad row, 0)] := by
  refine ⟨fun p hp => ?_, (pad row, 0), by simp, row, ⟨rfl, h.p, hu⟩, rfl, by simp⟩
  rw [List.mem_singleton.1 hp]
  exact ⟨row, ⟨rfl, h.p, hu⟩, rfl, by simp, by simp, by simp⟩
theorem mk_start (t : Nat) (L : List (K3 × Int)) : Mk row reqs t L [] [] := ⟨fun p hp => (by cases hp), fun p _ hd => (by cases hd)⟩
/-- The map one candidate later. -/
def laid (G : List (K3 × Int)) (k : K3) (c : Int) : List (K3 × Int) := if (lk G k).isSome = false ∨ c < (lk G k).getD 0 then mset G k c else G
theorem laid_lk (G : List (K3 × Int)) (k : K3) (c : Int) : (∃ c', lk (laid G k c) k = some c' ∧ c' ≤ c) ∧ ∀ k' c0, lk G k' = some c0 → ∃ c', lk (laid G k c) k' = some c' ∧ c' ≤ c0 := by
  unfold laid
  split
  · rename_i h
    refine ⟨⟨c, by rw [lk_mset, if_pos rfl], Int.le_refl _⟩, fun k' c0 h0 => ?_⟩
    rw [lk_mset]
    by_cases e : k' = k
    · subst e
      rw [if_pos rfl]
      refine ⟨c, rfl, ?_⟩
      rw [h0] at h
      rcases h with h | h
      · cases h
      · simp at h; omega
    · rw [if_neg e]; exact ⟨c0, h0, Int.le_refl _⟩
  · rename_i h
    refine ⟨?_, fun k' c0 h0 => ⟨c0, h0, Int.le_refl _⟩⟩
    cases hk : lk G k with
    | none => rw [hk] at h; exact absurd (.inl rfl) h
    | some c0 =>
      rw [hk] at h
      refine ⟨c0, rfl, ?_⟩
      have : ¬ (c < c0) := fun hh => h (.inr (by simpa using hh))
      omega
theorem dn_keep {t : Nat} {G G' : List (K3 × Int)} {p : K3 × Int} {n : Nat} (h : Dn3 row reqs t G p n) (hG : ∀ k' c0, lk G k' = some c0 → ∃ c', lk G' k' = some c' ∧ c' ≤ c0) : Dn3 row reqs t G' p n := fun i hi => by
  obtain ⟨c, h1, h2⟩ := h i hi
  obtain ⟨c', h3, h4⟩ := hG _ _ h1
  exact ⟨c', h3, by omega⟩
theorem ab_bd {x y : Int} (hx : 0 ≤ x ∧ x ≤ 99) (hy : 0 ≤ y ∧ y ≤ 99) : ab (x - y) ≤ 99 := by unfold ab; omega
/-- What a candidate is. -/
theorem cand (h : LrOk row reqs) {t : Nat} (ht : t < reqs.length) {p : K3 × Int} (hp : Ea row reqs t p) {i : Nat} (hi : i < row.length) :
    Ea row reqs (t + 1) (pad (sortI ((unp row.length p.1).set i (reqs.getD t 0))), p.2 + ab ((unp row.length p.1).getD i 0 - reqs.getD t 0)) := by
  obtain ⟨s, h1, h2, h3, h4, h5⟩ := hp
  have hu : unp row.length p.1 = s := by rw [h2]; exact unp_pad h.r.1.2 h1.l
  rw [hu]
  have hB := (bellman ht).u s i (by rw [h1.l]; exact hi)
  have hs : Wl reqs s t = Vl reqs s t := by unfold Wl; rw [sortI_of h1.u (List.Perm.refl _)]
  have hm := gr_move h1 (i := i) (h.q t)
  rw [hs] at hB
  have hab := ab_bd (h1.p i) (h.q t)
  have hab0 := ab_nn (s.getD i 0 - reqs.getD t 0)
  unfold Wl at hB
  refine ⟨sortI (s.set i (reqs.getD t 0)), hm, rfl, ?_, ?_, ?_⟩
  · dsimp only; omega
  · dsimp only; omega
  · dsimp only; push_cast; omega
theorem mk_laid (h : LrOk row reqs) {t : Nat} (ht : t < reqs.length) {L D : List _} {G : List (K3 × Int)} {p : K3 × Int} (hp : Ea row reqs t p) {i : Nat} (hi : i < row.length) (hM : Mk row reqs t L D G) :
    Mk row reqs t L D (laid G (pad (sortI ((unp row.length p.1).set i (reqs.getD t 0)))) (p.2 + ab ((unp row.length p.1).getD i 0 - reqs.getD t 0))) := by
  refine ⟨fun q hq => ?_, fun q hq hd => dn_keep (hM.d q hq hd) (laid_lk G _ _).2⟩
  unfold laid at hq
  split at hq
  · rcases mset_mem hq with e | e
    · exact hM.a q e
    · rw [e]; exact cand h ht hp hi
  · exact hM.a q hq
theorem dn_laid {t : Nat} {G : List (K3 × Int)} {p : K3 × Int} {i : Nat} (hD : Dn3 row reqs t G p i) :
    Dn3 row reqs t (laid G (pad (sortI ((unp row.length p.1).set i (reqs.getD t 0)))) (p.2 + ab ((unp row.length p.1).getD i 0 - reqs.getD t 0))) p (i + 1) := fun j hj => by
  obtain ⟨h1, h2⟩ := laid_lk G (pad (sortI ((unp row.length p.1).set i (reqs.getD t 0)))) (p.2 + ab ((unp row.length p.1).getD i 0 - reqs.getD t 0))
  by_cases e : j = i
  · subst e; exact h1
  · exact dn_keep hD h2 j (by omega)
theorem mk_next {t : Nat} {L : List (K3 × Int)} {D : List K3} {G : List (K3 × Int)} {p : K3 × Int} (hL : (L.map (·.1)).Nodup) (hp : p ∈ L) (hM : Mk row reqs t L D G) (hD : Dn3 row reqs t G p row.length) : Mk row reqs t L (p.1 :: D) G :=
  ⟨hM.a, fun q hq hd => by
    rcases List.mem_cons.1 hd with e | e
    · have h1 := lk_some hL hq
      have h2 := lk_some hL hp
      rw [e, h2] at h1
      have : q = p := Prod.ext e (Option.some.inj h1).symm
      rw [this]; exact hD
    · exact hM.d q hq e⟩
theorem lm_next (h : LrOk row reqs) {t : Nat} (ht : t < reqs.length) {L : List (K3 × Int)} {D : List K3} {G : List (K3 × Int)} (hL : Lm row reqs t L) (hM : Mk row reqs t L D G) (hD : ∀ p ∈ L, p.1 ∈ D) : Lm row reqs (t + 1) G := by
  refine ⟨hM.a, ?_⟩
  obtain ⟨p, hp, s, h1, h2, h3⟩ := hL.e
  have hu : unp row.length p.1 = s := by rw [h2]; exact unp_pad h.r.1.2 h1.l
  have hs : Wl reqs s t = Vl reqs s t := by unfold Wl; rw [sortI_of h1.u (List.Perm.refl _)]
  obtain ⟨i, hi, hB⟩ := (bellman ht).e s (by rw [h1.l]; exact h.r.1.1)
  rw [hs] at hB
  unfold Wl at hB
  obtain ⟨c, h4, h5⟩ := hM.d p hp (hD p hp) i (by rw [← h1.l]; exact hi)
  rw [hu] at h4 h5
  have hmem := lk_mem h4
  have hm := gr_move h1 (i := i) (h.q t)
  obtain ⟨s2, g1, g2, g3, _, _⟩ := hM.a _ hmem
  have e2 : s2 = sortI (s.set i (reqs.getD t 0)) := by
    have := congrArg (unp row.length) g2
    rw [unp_pad h.r.1.2 hm.l, unp_pad h.r.1.2 g1.l] at this
    exact this.symm
  rw [e2] at g3
  dsimp only at g3
  exact ⟨_, hmem, _, hm, rfl, by dsimp only; omega⟩
theorem v0_bd (h : LrOk row reqs) : 0 ≤ Vl reqs row 0 ∧ Vl reqs row 0 ≤ 1200 := by
  have h1 := least_bd h.q h.n (reqs.length - 0 + 1) (l := row) (at_ := 0) h.p (by omega)
  have h2 := vl_nn (reqs := reqs) reqs.length 0 (by omega) row h.r.1.1
  have h3 := vl_R (reqs := reqs) (s := row) (t := 0) (by omega)
  have hn := h.n
  rw [show (((0 : Nat)) : Int) = 0 from rfl] at h3
  omega
/-- The least of the last map's entries. -/
structure Fn3 (row reqs : List Int) (L : List (K3 × Int)) (D : List K3) (least : Int) : Prop where
  a : Vl reqs row 0 ≤ least
  b : least ≤ 1073741824
  d : ∀ p ∈ L, p.1 ∈ D → least ≤ p.2
theorem fn_start (h : LrOk row reqs) (L : List (K3 × Int)) : Fn3 row reqs L [] 1073741824 := ⟨by have := v0_bd h; omega, by omega, fun p _ hd => (by cases hd)⟩
theorem fn_next {L : List (K3 × Int)} {D : List K3} {least : Int} {p : K3 × Int} (hL : Lm row reqs reqs.length L) (hn : (L.map (·.1)).Nodup) (hp : p ∈ L) (hF : Fn3 row reqs L D least) : Fn3 row reqs L (p.1 :: D) (min least p.2) := by
  obtain ⟨s, h1, h2, h3, h4, h5⟩ := hL.a p hp
  rw [vl_end] at h3
  have := hF.a
  have := hF.b
  refine ⟨by omega, by omega, fun q hq hd => ?_⟩
  rcases List.mem_cons.1 hd with e | e
  · have g1 := lk_some hn hq
    have g2 := lk_some hn hp
    rw [e, g2] at g1
    have := Option.some.inj g1
    omega
  · have := hF.d q hq e; omega
theorem fn_end (h : LrOk row reqs) {L : List (K3 × Int)} {D : List K3} {least : Int} (hL : Lm row reqs reqs.length L) (hF : Fn3 row reqs L D least) (hD : ∀ p ∈ L, p.1 ∈ D) : least = Vl reqs row 0 := by
  obtain ⟨p, hp, s, h1, h2, h3⟩ := hL.e
  rw [vl_end] at h3
  have h4 := hF.d p hp (hD p hp)
  have := hF.a
  omega
end Go.Proofs.Ytcmhgkcifejgcaa
namespace Go.Proofs.Ytcmhgkcifejgcaa
set_option linter.unusedVariables false
set_option linter.unusedSimpArgs false
open Go Go.RowKit
set_option linter.unusedVariables false
set_option linter.unusedSimpArgs false
/-- What a loop over a map has: the entries, the keys that came out, the last entry that came out. -/
structure Rg3 (b : Nat) (L : List (K3 × Int)) (D : List K3) (last : Option (K3 × Int)) (es : Array MapEntry) (clock : Nat) (seen : Array Nat) (c0 : Nat) : Prop where
  g : Gm es clock L
  c : clock ≤ c0
  s : ∀ (j : Nat) (e : MapEntry) (p : K3 × Int), es.toList[j]? = some e → L[j]? = some p → (seen.contains e.born = true ↔ p.1 ∈ D)
  t : ∀ p, last = some p → ∃ (seen0 : Array Nat) (e : MapEntry) (j : Nat), seen = seen0.push e.born ∧ es.toList[j]? = some e ∧ L[j]? = some p ∧ c0 = clock
abbrev rngCk (b r : Nat) (L : List (K3 × Int)) (D : List K3) (last : Option (K3 × Int)) : Ck :=
  .objs [b, r] (fun l => ∃ es clock seen c0, l = [some (.map es clock), some (.mapIter (some b) clock seen c0)] ∧ Rg3 b L D last es clock seen c0)
theorem rng_get {w0 w : World} {os : List Ck} (hw : Hp w0 os w) (i : Nat) {b r : Nat} {L : List (K3 × Int)} {D : List K3} {last : Option (K3 × Int)} (ho : os[i]? = some (rngCk b r L D last)) :
    ∃ es clock seen c0, w.heap[b]? = some (.map es clock) ∧ w.heap[r]? = some (.mapIter (some b) clock seen c0) ∧ Rg3 b L D last es clock seen c0 := by
  obtain ⟨_, es, clock, seen, c0, h1, h2⟩ := hw.get i ho
  simp only [List.map_cons, List.map_nil, List.cons.injEq, and_true] at h1
  exact ⟨es, clock, seen, c0, h1.1, h1.2, h2⟩
theorem pair_at {es : Array MapEntry} {clock : Nat} {L : List (K3 × Int)} (h : Gm es clock L) {e : MapEntry} (he : e ∈ es.toList) : ∃ (j : Nat) (p : K3 × Int), es.toList[j]? = some e ∧ L[j]? = some p ∧ e.key = key3 p.1 ∧ e.val = int p.2 := by
  obtain ⟨j, hj, hje⟩ := List.getElem_of_mem he
  have h1 : es.toList[j]? = some e := by rw [List.getElem?_eq_getElem hj, hje]
  obtain ⟨p, h2, h3, h4⟩ := h.at h1
  exact ⟨j, p, h1, h2, h3, h4⟩
theorem idx_of_key {L : List (K3 × Int)} (hn : (L.map (·.1)).Nodup) {i j : Nat} {p q : K3 × Int} (hi : L[i]? = some p) (hj : L[j]? = some q) (h : p.1 = q.1) : i = j := by
  have h1 : (L.map (·.1))[i]? = some p.1 := by rw [List.getElem?_map, hi]; rfl
  have h2 : (L.map (·.1))[j]? = some q.1 := by rw [List.getElem?_map, hj]; rfl
  have hil := (List.getElem?_eq_some_iff.1 h1)
  have hjl := (List.getElem?_eq_some_iff.1 h2)
  obtain ⟨a1, a2⟩ := hil
  obtain ⟨b1, b2⟩ := hjl
  exact (List.getElem_inj hn).1 (by rw [a2, b2, h])
theorem idx_of_born {es : Array MapEntry} (hn : (es.toList.map (·.born)).Nodup) {i j : Nat} {p q : MapEntry} (hi : es.toList[i]? = some p) (hj : es.toList[j]? = some q) (h : p.born = q.born) : i = j := by
  have h1 : (es.toList.map (·.born))[i]? = some p.born := by rw [List.getElem?_map, hi]; rfl
  have h2 : (es.toList.map (·.born))[j]? = some q.born := by rw [List.getElem?_map, hj]; rfl
  obtain ⟨a1, a2⟩ := List.getElem?_eq_some_iff.1 h1
  obtain ⟨b1, b2⟩ := List.getElem?_eq_some_iff.1 h2
  exact (List.getElem_inj hn).1 (by rw [a2, b2, h])
section
variable {ops : Array Oper} {Q : Exit → Act → World → Prop} {N : Nat} {C : World → Prop} {rest : List Oper} {l : Sl} {v : Value} {d : Nat}
variable {dd : Option Tmp} {ty : TypeId} {ps' : String} {af : Array Edge} {g : Option (Nat × Bool)} {x y z : Operand} {t e : TypeId} {w0 : World} {os : List Ck}
set_option maxRecDepth 20000 in
theorem TL.mrange (i : Nat) {b : Nat} {L : List (K3 × Int)} (hx : Ev l x (.map (some b))) (ho : os[i]? = some (mapCk b L)) (hb : Nat.blt d N = true)
    (h : ∀ r, TL Try.prog ops Q N (Hp w0 (os.set i (rngCk b r L [] none))) rest ((d, .pointer (some ⟨r, 0, none⟩)) :: l)) :
    TL Try.prog ops Q N (Hp w0 os) (⟨some d, .range 118 x, ty, ps', af, none⟩ :: rest) l := TL.raw rfl fun a w hs hw => by
  obtain ⟨es, clock, hm, hG⟩ := map_get hw i ho
  have hbl := (hw.get i ho).1 b (by simp)
  have hlt : w.heap.size < (w.alloc (.mapIter (some b) clock #[] clock)).heap.size := by simp
  have hnew : Hp w0 (os.set i (rngCk b w.heap.size L [] none)) (w.alloc (.mapIter (some b) clock #[] clock)) := by
    refine hw.turn_at i ho rfl rfl rfl (by simp) (fun k hk _ => heap_alloc_old w _ hk) ⟨fun q hq => ?_, es, clock, #[], clock, ?_, ⟨hG, Nat.le_refl _, fun j e p _ _ => by simp, fun p hp => by cases hp⟩⟩ (fun k hk => ?_)
    · rcases List.mem_cons.1 hq with e | e
      · subst e; exact ⟨hbl.1, by omega⟩
      · rw [List.mem_singleton.1 e]; exact ⟨hw.1.size, hlt⟩
    · show [(w.alloc (.mapIter (some b) clock #[] clock)).heap[b]?, (w.alloc (.mapIter (some b) clock #[] clock)).heap[w.heap.size]?] = _
      rw [heap_alloc_old w _ hbl.2, hm, heap_alloc_new]
    · rcases List.mem_cons.1 hk with e | e
      · subst e; exact .inl (List.mem_singleton.2 rfl)
      · rw [List.mem_singleton.1 e]; exact .inr (Nat.le_refl _)
  unfold Oper.wp
  simp only [execOp, hx N a hs, run_range_map w _ _ _ b es clock Try.underlying118 hm, Sem.run_bind, Result.andThen_ok, Sem.run_pure, Oper.upon]
  exact h w.heap.size _ _ (hs.put hb _) hnew
theorem TL.mnext (i : Nat) {b r : Nat} {L : List (K3 × Int)} {D : List K3} {last : Option (K3 × Int)} (hx : Ev l x (.pointer (some ⟨r, 0, none⟩))) (ho : os[i]? = some (rngCk b r L D last)) (hb : Nat.blt d N = true)
    (h0 : (∀ p ∈ L, p.1 ∈ D) → TL Try.prog ops Q N (Hp w0 os) rest ((d, .tuple #[.bool false]) :: l))
    (h1 : ∀ p, p ∈ L → p.1 ∉ D → TL Try.prog ops Q N (Hp w0 (os.set i (rngCk b r L (p.1 :: D) (some p)))) rest ((d, .tuple #[.bool true, key3 p.1, int p.2]) :: l)) :
    TL Try.prog ops Q N (Hp w0 os) (⟨some d, .next x false, ty, ps', af, none⟩ :: rest) l := TL.raw rfl fun a w hs hw => by
  obtain ⟨es, clock, seen, c0, hm, hr, hR⟩ := rng_get hw i ho
  have hG := hR.g
  have hbl := (hw.get i ho).1
  have hne : r ≠ b := fun e => by rw [e, hm] at hr; cases hr
  rcases run_next_at (P := Try.prog) w ty r b clock c0 seen es clock hr hm hG.bl hR.c with ⟨hz, hrun⟩ | ⟨en, hen, w1, hw1, hrun⟩
  · unfold Oper.wp
    simp only [execOp, hx N a hs, hrun, Sem.run_bind, Result.andThen_ok, Sem.run_pure, Oper.upon]
    refine h0 (fun p hp => ?_) _ _ (hs.put hb _) hw
    obtain ⟨j, hj, hjp⟩ := List.getElem_of_mem hp
    have hj2 : j < es.toList.length := by rw [hG.len]; exact hj
    exact (hR.s j es.toList[j] p (List.getElem?_eq_getElem hj2) (by rw [List.getElem?_eq_getElem hj, hjp])).1 (all_seen es seen hz _ (List.getElem_mem hj2))
  · obtain ⟨hmem, hnot⟩ := mem_left hen
    obtain ⟨j, p, q1, q2, q3, q4⟩ := pair_at hG hmem
    have hD : p.1 ∉ D := fun hd => by
      have := (hR.s j en p q1 q2).2 hd
      rw [hnot] at this; cases this
    have hw1' : Hp w0 os w1 := by
      rcases hw1 with rfl | rfl
      · exact hw
      · exact hw.drew
    have hm1 : w1.heap[b]? = some (.map es clock) := by rcases hw1 with rfl | rfl <;> exact hm
    have hs1 : w1.heap.size = w.heap.size := by rcases hw1 with rfl | rfl <;> rfl
    have hnew : Hp w0 (os.set i (rngCk b r L (p.1 :: D) (some p))) (ChangeMaps.setBlock w1 r (.mapIter (some b) clock (seen.push en.born) clock)) := by
      refine hw1'.turn_at i ho rfl rfl rfl (by rw [setBlock_size]; exact Nat.le_refl _) (fun k _ hk => setBlock_ne (fun e => hk (by rw [e]; simp [Ck.foot])) _) ⟨fun q hq => ?_, es, clock, seen.push en.born, clock, ?_, ⟨hG, Nat.le_refl _, fun j' e' p' r1 r2 => ?_, fun p' hp' => ?_⟩⟩ (fun k hk => .inl hk)
      · rw [setBlock_size, hs1]; exact hbl q hq
      · show [(ChangeMaps.setBlock w1 r (.mapIter (some b) clock (seen.push en.born) clock)).heap[b]?, (ChangeMaps.setBlock w1 r (.mapIter (some b) clock (seen.push en.born) clock)).heap[r]?] = _
        rw [setBlock_ne (Ne.symm hne), hm1, setBlock_at (by rw [hs1]; exact (hbl r (by simp)).2)]
      · rw [Array.contains_push, Bool.or_eq_true, hR.s j' e' p' r1 r2, List.mem_cons]
        constructor
        · rintro (h | h)
          · exact .inr h
          · have hb2 : e'.born = en.born := by simpa using h
            have := idx_of_born hG.bn r1 q1 hb2
            subst this
            rw [q2] at r2
            exact .inl (congrArg Prod.fst (Option.some.inj r2)).symm
        · rintro (h | h)
          · have := idx_of_key hG.nd r2 q2 h
            subst this
            rw [q1] at r1
            right
            rw [Option.some.inj r1]
            simp
          · exact .inl h
      · obtain rfl := Option.some.inj hp'
        exact ⟨seen, en, j, rfl, q1, q2, rfl⟩
    unfold Oper.wp
    simp only [execOp, hx N a hs, hrun, Sem.run_bind, Result.andThen_ok, Sem.run_pure, Oper.upon]
    rw [q3, q4]
    exact h1 p (List.mem_of_getElem? q2) hD _ _ (hs.put hb _) hnew
theorem y_mentry (i : Nat) {b r : Nat} {L : List (K3 × Int)} {D : List K3} {p : K3 × Int} (hx : Ev l x (.pointer (some ⟨r, 0, none⟩))) (ho : os[i]? = some (rngCk b r L D (some p))) :
    Ys Try.prog (Hp w0 os) N l ⟨dd, .entry x, ty, ps', af, g⟩ (.tuple #[key3 p.1, int p.2]) := yl_of fun a w hs hw => by
  obtain ⟨es, clock, seen, c0, hm, hr, hR⟩ := rng_get hw i ho
  obtain ⟨seen0, en, j, e1, q1, q2, e2⟩ := hR.t p rfl
  obtain ⟨p', r1, r2, r3⟩ := hR.g.at q1
  rw [q2] at r1
  obtain rfl := Option.some.inj r1
  rw [e1, e2] at hr
  have hrun := run_entry_at (P := Try.prog) w r b clock seen0 es clock en hr hm (List.mem_of_getElem? q1) hR.g.bn
  simp [execOp, hx N a hs, hrun, r2, r3]
theorem rng_map {w : World} (i : Nat) {b r : Nat} {L : List (K3 × Int)} {D : List K3} {last : Option (K3 × Int)} (ho : os[i]? = some (rngCk b r L D last)) (hw : Hp w0 os w) : Hp w0 (os.set i (mapCk b L)) w := by
  obtain ⟨es, clock, seen, c0, hm, hr, hR⟩ := rng_get hw i ho
  have hbl := (hw.get i ho).1
  refine hw.turn_at i ho rfl rfl rfl (Nat.le_refl _) (fun _ _ _ => rfl) ⟨fun q hq => ?_, es, clock, ?_, hR.g⟩ (fun k hk => .inl ?_)
  · rw [List.mem_singleton.1 hq]; exact hbl b (by simp)
  · show [w.heap[b]?] = _
    rw [hm]
  · rw [List.mem_singleton.1 hk]; simp [Ck.foot]
/-! arrays -/
theorem addr_zero (b : Nat) : (⟨b, 0, none⟩ : Addr).add (0 * 1) = ⟨b, 0, none⟩ := by rw [Addr.add_lit]
theorem y_slA {b : Nat} {n : Nat} (hx : Ev l x (.pointer (some ⟨b, 0, none⟩))) (hT : ArT Try.prog t e n) (hn : 0 < n) : Ys Try.prog C N l ⟨dd, .slice t x none none none, ty, ps', af, g⟩ (.slice (some ⟨b, 0, none⟩) n n) := yl_of fun a w hs hw => by
  have hsz := hT.2.1 w
  have ha := addr_zero b
  simp [execOp, hx N a hs, Instr.sliceAt, run_underlying hT.1, Instr.sureAddr, Instr.sliceBounds, hsz, show ¬ n = 0 by omega, ha]
theorem y_slAh {b : Nat} {n hi : Nat} {j : Int} (hx : Ev l x (.pointer (some ⟨b, 0, none⟩))) (hy : Ev l y (int j)) (hj : j = hi) (hT : ArT Try.prog t e n) (hn : 0 < n) (hh : hi ≤ n) : Ys Try.prog C N l ⟨dd, .slice t x none (some y) none, ty, ps', af, g⟩ (.slice (some ⟨b, 0, none⟩) hi n) := yl_of fun a w hs hw => by
  subst hj
  have hsz := hT.2.1 w
  have ha := addr_zero b
  simp [execOp, hx N a hs, hy N a hs, Instr.sliceAt, run_underlying hT.1, Instr.sureAddr, Instr.sliceBounds, Instr.sliceBound, asIntOf, hsz, show ¬ n = 0 by omega, hh, ha]
theorem ri_blk (i : Nat) {b : Nat} {zs : List Int} {hi n : Nat} (ho : os[i]? = some (.blk b e (ints zs))) (hn : zs.length = n) (hh : hi ≤ n) (hm : n ≤ 1000) : ∀ w, Hp w0 os w → RI w (.slice (some ⟨b, 0, none⟩) hi n) (zs.take hi) := fun w hw => by
  have hg := hw.get i ho
  have hbl : b < w.heap.size := (Array.getElem?_eq_some_iff.1 hg.2).1
  have hlen : (zs.take hi).length = hi := by rw [List.length_take]; omega
  refine ⟨by simp, by rw [hlen]; unfold maxLen; omega, some ⟨b, 0, none⟩, n, by rw [hlen], by rw [hlen]; exact hh, (fun h => by cases h), fun _ => ⟨_, rfl, hbl, fun j u hu => ?_⟩⟩
  have h2 : (ints zs)[j]? = some u := by
    have : ints (zs.take hi) = (ints zs).take hi := by simp [ints, List.map_take]
    rw [this, List.getElem?_take] at hu
    split at hu
    · exact hu
    · cases hu
  rw [Addr.add_lit, Nat.zero_add]
  rw [cell_of_row w b j _ e (0, 0) hg.2]
  simpa using h2
theorem TL.copyA (i : Nat) {b n : Nat} {u : Value} {zs qs : List Int} {st se : TypeId} {zz : Value} {bytes : Nat} (hx : Ev l x (.slice (some ⟨b, 0, none⟩) n n)) (hy : Ev l y u) (ho : os[i]? = some (.blk b e (ints zs))) (hn : zs.length = n) (hT : SlT Try.prog st se zz 1 bytes) (hr : ∀ w, Hp w0 os w → RI w u qs) (hb : Nat.blt d N = true)
    (h : TL Try.prog ops Q N (Hp w0 (os.set i (.blk b e (ints (qs.take n ++ zs.drop (min qs.length n)))))) rest ((d, int (min qs.length n : Nat)) :: l)) :
    TL Try.prog ops Q N (Hp w0 os) (⟨some d, .call { callee := .builtin .copy, args := #[x, y], argTypes := #[st, st] }, ty, ps', af, none⟩ :: rest) l := TL.raw rfl fun a w hs hw => by
  have hu : Try.prog.underlying st = some (.slice se) := hT.1
  have hsz : (Try.prog.info? se).map (·.size) = some 1 := by
    have := hT.2.1
    cases hq : Try.prog.info? se with
    | none => rw [hq] at this; cases this
    | some i => rw [hq] at this; simp at this ⊢; exact this.2.1
  have hg := hw.get i ho
  obtain ⟨q1, q2, A, c, hue, q3, q4, q5⟩ := hr w hw
  subst hue
  by_cases hmin : min qs.length n = 0
  · have hnil : qs.take n ++ zs.drop (min qs.length n) = zs := by
      have : qs.take n = [] := by
        rw [List.take_eq_nil_iff]
        rcases Nat.min_eq_zero_iff.1 hmin with h | h
        · right; exact List.length_eq_zero_iff.1 h
        · left; exact h
      rw [this, hmin]; simp
    rw [hnil] at h
    have hset : os.set i (.blk b e (ints zs)) = os := by
      obtain ⟨h1, h2⟩ := List.getElem?_eq_some_iff.1 ho
      rw [← h2]; exact List.set_getElem_self h1
    rw [hset, hmin] at h
    have hrun := run_copy_none (P := Try.prog) w st st ty se (some ⟨b, 0, none⟩) A n n qs.length c hu hsz hmin
    unfold Oper.wp
    simp only [execOp, resolve, invoke, builtin, Sem.run_bind, Sem.run_pure, Result.andThen_ok, List.map_toArray, List.map_cons, List.map_nil, hx N a hs, hy N a hs, hrun, Oper.upon]
    exact h _ _ (hs.put hb _) hw
  · obtain ⟨ad, hA, hab, hcell⟩ := q5 (by omega)
    subst hA
    have hlen : (ints (qs.take n)).length = min qs.length n := by simp; omega
    have hrun := run_copy_row (P := Try.prog) w st st ty se b 0 n n ad qs.length c (ints zs).toArray e (ints (qs.take n)) hu hsz hg.2 (by rw [hlen])
      (fun j q hq => by
        refine hcell j q ?_
        have : ints (qs.take n) = (ints qs).take n := by simp [ints, List.map_take]
        rw [this, List.getElem?_take] at hq
        split at hq
        · exact hq
        · cases hq) (by rw [hlen]; simp <;> omega) (oc_ints _)
    have hcs : ((ints zs).toArray.toList.take 0 ++ ints (qs.take n) ++ (ints zs).toArray.toList.drop (0 + (ints (qs.take n)).length)).toArray = (ints (qs.take n ++ zs.drop (min qs.length n))).toArray := by
      rw [hlen]
      simp [ints, List.map_drop]
    rw [hcs, hlen] at hrun
    unfold Oper.wp
    simp only [execOp, resolve, invoke, builtin, Sem.run_bind, Sem.run_pure, Result.andThen_ok, List.map_toArray, List.map_cons, List.map_nil, hx N a hs, hy N a hs, hrun, Oper.upon]
    exact h _ _ (hs.put hb _) (hw.turn_at i ho rfl rfl rfl (by simp) (fun q _ hne => setRow_other w b q _ (fun e => hne e.symm)) ⟨hg.1, setRow_heap w b _ _ e _ hg.2⟩ (fun q hq => .inl hq))
theorem y_ldA3 (i : Nat) {b c : Nat} {zs : List Int} (hx : Ev l x (.pointer (some ⟨b, 0 + c, none⟩))) (hT : One Try.prog t) (ho : os[i]? = some (.blk b e (ints zs))) (hc : c < zs.length) : Ys Try.prog (Hp w0 os) N l ⟨dd, .load t x, ty, ps', af, g⟩ (int (zs.getD c 0)) :=
  y_ldb i hx hT ho (by rw [Nat.zero_add, ints, List.getElem?_map, List.getElem?_eq_getElem hc]; simp [List.getD, hc])
end
end Go.Proofs.Ytcmhgkcifejgcaa
namespace Go.Proofs.Ytcmhgkcifejgcaa
set_option linter.unusedVariables false
set_option linter.unusedSimpArgs false
open Go Go.RowKit
theorem law_LeastRows (row reqs : List Int) : F_laws_FnExactLeastRows row reqs = true := by
  unfold F_laws_FnExactLeastRows
  simp only [toIntS_eq, eqIntS_refl]
  by_cases h1 : (1048576 : Int) < (row.length : Int) <;> by_cases h2 : (1048576 : Int) < (reqs.length : Int) <;> simp [h1, h2]
end Go.Proofs.Ytcmhgkcifejgcaa
