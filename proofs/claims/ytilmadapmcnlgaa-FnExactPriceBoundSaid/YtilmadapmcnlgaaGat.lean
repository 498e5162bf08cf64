/-
  Rows gathered, captured metrics, slices of two slices, the library's Grow. No condition.
-/
import Derived.Test.YtilmadapmcnlgaaStru
import Derived.Test.YtilmadapmcnlgaaPlain
import Derived.Shelf.Spec.SlicesGrow
import Derived.Test.YtilmadapmcnlgaaProg
namespace Go.Proofs.Ytilmadapmcnlgaa
section
open Go Go.RowKit

/-- A variable of one cell of a struct's type. -/
def AggAt (w : World) (b : Nat) (e : TypeId) (u : Value) : Prop := b < w.heap.size ∧ w.heap[b]? = some (.cells #[u] e (0, 0))
theorem AggAt.below {w w' : World} {b : Nat} {e : TypeId} {u : Value} (h : AggAt w b e u) (hb : Below w.heap.size w w') : AggAt w' b e u :=
  ⟨Nat.lt_of_lt_of_le h.1 hb.size, (hb.block b h.1).trans h.2⟩
/-- A row of a table if i is one of its places, else another row. -/
def rowref (us : List Value) (v : Value) (i : Int) : Value := bif decide (0 ≤ i) then us.getD i.toNat undef else v
def rowpure (xss : List (List Int)) (x : List Int) (i : Int) : List Int := bif decide (0 ≤ i) then xss.getD i.toNat [] else x
theorem rowref_t (us : List Value) (v : Value) (k : Nat) : rowref us v (k : Int) = us.getD k undef := by
  unfold rowref; rw [decide_eq_true (by omega)]; rfl
theorem rowref_f (us : List Value) (v : Value) : rowref us v (-1) = v := rfl
theorem rowref_ri {w : World} {us : List Value} {xss : List (List Int)} {tv v : Value} {x : List Int} {i : Int} (h : i < xss.length) (hT : RII w tv us xss) (hx : RI w v x) : RI w (rowref us v i) (rowpure xss x i) := by
  unfold rowref rowpure
  by_cases h0 : 0 ≤ i
  · rw [decide_eq_true h0]; exact hT.row (by omega)
  · rw [decide_eq_false h0]; exact hx
section
variable {P : Program} {ops : Array Oper} {Q : Exit → Act → World → Prop} {N : Nat} {C : World → Prop} {rest : List Oper} {l : Sl}
variable {w0 : World} {os : List Ck} {v u : Value} {t t' e e' : TypeId} {d k m n : Nat} {x y : Operand} {ty : TypeId} {ps : String} {af : Array Edge} {dd : Option Tmp} {g : Option (Nat × Bool)} {z : Value} {bytes : Nat}
theorem agg_blk {w w2 : World} {b : Nat} (i : Nat) (ho : os[i]? = some (.blk b e [u])) (hw : Hp w0 os w) (hb : Below w.heap.size w w2) : AggAt w2 b e u := by
  have h := hw.get i ho
  exact AggAt.below ⟨(h.lt b rfl).2, h.2⟩ hb
theorem y_ldcagg {b : Nat} (hx : Ev l x (.pointer (some ⟨b, 0, none⟩))) (hT : AggT P t 1) (hc : AggAt w0 b e u) : Ys P (Hp w0 os) N l ⟨dd, .load t x, ty, ps, af, g⟩ (.agg #[u]) := yl_of fun a w hs hw => by
  have hr := AggT.load (cs := [u]) hT (hc.below hw.1).2
  simp [execOp, hx N a hs, Instr.loadAt, Instr.sureAddr, hr]
theorem TL.appendG (i q : Nat) {r : Value} {us : List Value} {qs : List Int} (hx : Ev l x v) (hy : Ev l y u) (ho : os[i]? = some (.row v e 1 us.length us)) (hm : os[q]? = some (.row u e 1 1 [r])) (hT : SlT P t e z 1 24)
    (hr : ∀ w, Hp w0 os w → RI w r qs) (hlen : us.length + 1 ≤ 5000000000000) (hb : Nat.blt d N = true)
    (h : ∀ v', TL P ops Q N (Hp w0 (os.set i (.row v' e 1 (us ++ [r]).length (us ++ [r])))) rest ((d, v') :: l)) :
    TL P ops Q N (Hp w0 os) (⟨some d, .call { callee := .builtin .append, args := #[x, y], argTypes := #[t, t] }, ty, ps, af, none⟩ :: rest) l := fun a w hs hw => by
  obtain ⟨A, c, hrv, _⟩ := (hr w hw).ln
  refine TL.append (m := 1) (ys := [r]) i hx hy ho hT (fun w' hw' => rd_own (hw'.get q hm)) (fun p hp => ?_) (by omega) (by unfold maxLen; omega) hb (fun v' => ?_) a w hs hw
  · rw [List.mem_singleton.1 hp, hrv]; rfl
  · have := h v'
    simp only [List.length_append, List.length_cons, List.length_nil] at this
    exact this
theorem Hp.gather0 {w : World} (i : Nat) (e' : TypeId) (hi : os[i]? = some (.row v e 1 ([] : List Value).length [])) (hw : Hp w0 os w) : Hp w0 [tabI e e' v [] []] w :=
  ⟨hw.1, fun c hc => by
    rw [List.mem_singleton.1 hc]
    exact ⟨hw.get i hi, rfl, fun i hi => absurd hi (by simp), fun i hi => absurd hi (by simp)⟩, by simp⟩
theorem Hp.gather {w : World} (i j : Nat) {us tus : List Value} {xss txss : List (List Int)} {tv : Value} (hi : os[i]? = some (.row v e 1 us.length us)) (hj : os[j]? = some (tabI e e' tv tus txss))
    (hg : ∃ lt : List Nat, us = lt.map (fun p => tus.getD p undef) ∧ xss = lt.map (fun p => txss.getD p []) ∧ lt.Nodup ∧ ∀ p ∈ lt, p < txss.length) (hw : Hp w0 os w) : Hp w0 [tabI e e' v us xss] w := by
  obtain ⟨lt, rfl, rfl, hd, hl⟩ := hg
  have hne : i ≠ j := by intro h; subst h; rw [hi] at hj; cases hj
  have h1 : Own w w0.heap.size e 1 v (lt.map (fun p => tus.getD p undef)).length (lt.map (fun p => tus.getD p undef)) := hw.get i hi
  have h2 := hw.get j hj
  have ap := hw.apart hne hi hj
  have gu : ∀ p, (hp : p < lt.length) → (lt.map (fun p => tus.getD p undef)).getD p undef = tus.getD lt[p] undef := fun p hp => by
    rw [getD_lt _ _ _ (by simpa using hp)]; simp
  have gx : ∀ p, (hp : p < lt.length) → (lt.map (fun p => txss.getD p [])).getD p [] = txss.getD lt[p] [] := fun p hp => by
    rw [getD_lt _ _ _ (by simpa using hp)]; simp
  have hb : ∀ p, (hp : p < lt.length) → lt[p] < tus.length := fun p hp => by rw [h2.2.1]; exact hl _ (List.getElem_mem hp)
  refine ⟨hw.1, fun c hc => ?_, by simp⟩
  rw [List.mem_singleton.1 hc]
  refine ⟨by rw [List.length_map] at *; exact h1, by simp, fun p hp _ => ?_, fun p hp k hk => ?_⟩
  · have hp' : p < lt.length := by simpa using hp
    rw [gu p hp', gx p hp']
    exact h2.2.2.1 _ (hb p hp') (by simp)
  · have hp' : p < lt.length := by simpa using hp
    rw [gu p hp'] at hk
    refine ⟨fun hv => ap k hv (.inr ⟨_, hb p hp', by simp, hk⟩), fun q hq hqp => ?_⟩
    have hq' : q < lt.length := by simpa using hq
    rw [gu q hq']
    exact (h2.2.2.2 _ (hb p hp') k hk).2 _ (hb q hq') (fun e => hqp ((List.getElem_inj hd).1 e))
theorem rii_two (i : Nat) {va vb : Value} {a b : List Int} (ho : os[i]? = some (.row v e 1 2 [va, vb])) (ha : ∀ w, Hp w0 os w → RI w va a) (hb : ∀ w, Hp w0 os w → RI w vb b) : ∀ w, Hp w0 os w → RII w v [va, vb] [a, b] := fun w hw =>
  ⟨rd_own (hw.get i ho), rfl, fun j hj => by
    match j, hj with
    | 0, _ => exact ha w hw
    | 1, _ => exact hb w hw⟩
theorem TL.build2 {u2 : Value} (hT : SlT P t e z 1 bytes) (hx : Ev l x u) (hy : Ev l y u2) (hu : ∀ w, Hp w0 os w → Ln u m) (hu2 : ∀ w, Hp w0 os w → Ln u2 n) (hb : Nat.blt d N = true)
    (h : ∀ v', TL P ops Q N (Hp w0 (.row v' e 1 2 [u, u2] :: os)) rest ((d, v') :: l)) :
    TL P ops Q N (Hp w0 os) (⟨some d, .buildSlice t 2 #[(0, x), (1, y)], ty, ps, af, none⟩ :: rest) l := fun a w hs hw => by
  obtain ⟨A, c, rfl, _⟩ := hu w hw
  obtain ⟨A2, c2, rfl, _⟩ := hu2 w hw
  exact TL.buildSlice (parts := [(0, x), (1, y)]) (zs := [x, y]) (vs := [.slice A m c, .slice A2 n c2]) hT rfl ⟨hx, hy, trivial⟩ (by intro q hq; simp only [List.mem_cons, List.not_mem_nil, or_false] at hq; rcases hq with rfl | rfl <;> rfl) rfl (by simp) hb (fun v' => h v') a w hs hw
end
end

section
open Go Go.Shelf
def lays804_ren : Go.Shelf.Ren := ⟨fun | 4 => 137 | n => n, fun | 22 => 25 | 25 => 3 | 3 => 3 | 4 => 4 | 9 => 9 | 20 => 20 | 0 => 0 | n => n, fun | n => n⟩
theorem lays804 : Go.Proofs.Lays8.n4 Try.prog lays804_ren := {
  mixed := by kernel_rfl
  f4 := ⟨Try.f137.name, by decide, Try.func137.trans (congrArg some (by kernel_rfl))⟩
  t0 := Try.underlying0
  a0 := Try.isAgg0
  z0 := Try.sizeOf0
  v0 := Try.zeroValue0
  t3 := Try.underlying3
  a3 := Try.isAgg3
  z3 := Try.sizeOf3
  v3 := Try.zeroValue3
  t4 := Try.underlying4
  a4 := Try.isAgg4
  z4 := Try.sizeOf4
  v4 := Try.zeroValue4
  t9 := Try.underlying9
  a9 := Try.isAgg9
  z9 := Try.sizeOf9
  v9 := Try.zeroValue9
  t20 := Try.underlying20
  a20 := Try.isAgg20
  z20 := Try.sizeOf20
  v20 := Try.zeroValue20
  t22 := Try.underlying25
  a22 := Try.isAgg25
  z22 := Try.sizeOf25
  v22 := Try.zeroValue25 }
end

section
open Go Go.RowKit

theorem slices_Grow_ok (w : World) (n : Int) (hp0 : 0 ≤ n) (hp1 : n ≤ 1000000) :
    Calls Try.prog 137 ([(.slice none 0 0), (.int .i64 n)] : List Value).toArray w (fun e w' => ∃ i : Value, e = .returned i ∧ Hp w [rowI 3 i []] w') := by
  obtain ⟨k, rfl⟩ : ∃ k : Nat, n = k := ⟨n.toNat, by omega⟩
  rcases Nat.eq_zero_or_pos k with rfl | hk
  · refine (Any8.slices_Grow_room lays804 none 0 0 0 w (by omega) (by omega) (by omega) (by omega)).mono ?_
    rintro e w' ⟨rfl, rfl⟩
    exact ⟨_, rfl, (Hp.start _).nil _ _⟩
  · have hT := slT_25
    obtain ⟨i0, hi, hiz, his, hby⟩ := info_parts hT.2.1
    refine (Any8.slices_Grow_grow lays804 i0 (.int .i64 0) hi hiz (by omega) none 0 0 k [] w (by omega) (by omega) (by rw [hby]; omega) (by omega) (by simp) (fun _ => rfl) (fun a h => by cases h)).mono ?_
    rintro e w' ⟨rfl, rfl⟩
    have hge := grownCap_ge w (0 + k) 0 3
    have hcm := grownCap_le_maxLen w (0 + k) 0 3 (by unfold maxLen; omega)
    refine ⟨_, rfl, (Hp.start w).new ⟨rfl, rfl, rfl, by simp, fun k hk => Below.heap_alloc w.drew _ k hk⟩ ?_⟩
    refine ⟨by simp, .inr ⟨w.heap.size, _, _, rfl, by show 0 < grownCap w (0 + k) 0 3; omega, Nat.le_refl _, heap_alloc_new w.drew _, Nat.zero_le _, hcm, ?_, by simp⟩⟩
    have hz : (Value.int .i64 0).cells.size = 1 := rfl
    show _ = grownCap w (0 + k) 0 3 * 1
    simp only [Array.size_append, List.size_toArray, size_zeroCells, hz, List.length_nil]
    show 0 + (0 + k - 0) * 1 + (grownCap w (0 + k) 0 3 - (0 + k)) * 1 = _
    omega
end
end Go.Proofs.Ytilmadapmcnlgaa
