/-
  What a call owns and what it reads: lists of chunks over the world in which the call began; their laws. No condition.
-/
import Derived.Test.YtcmhgkcifejgcaaSep
namespace Go.Proofs.Ytcmhgkcifejgcaa
open Go Go.RowKit

abbrev int (n : Int) : Value := .int .i64 n
abbrev ints (xs : List Int) : List Value := xs.map int

/-- The slice value v reads as these cells: n elements of sz cells. -/
def Rd (w : World) (v : Value) (sz n : Nat) (xs : List Value) : Prop :=
  xs.length = n * sz ∧ n ≤ maxLen ∧ ∃ A c, v = .slice A n c ∧ n ≤ c ∧ (A = none → c = 0) ∧
    (0 < n → ∃ ad, A = some ad ∧ ad.block < w.heap.size ∧ ∀ j u, xs[j]? = some u → w.cell? (ad.add j) = some u)

def RI (w : World) (v : Value) (xs : List Int) : Prop := Rd w v 1 xs.length (ints xs)

def RII (w : World) (v : Value) (us : List Value) (xss : List (List Int)) : Prop :=
  Rd w v 1 xss.length us ∧ us.length = xss.length ∧ ∀ i, i < xss.length → RI w (us.getD i undef) (xss.getD i [])

/-- A slice of a length. -/
def Ln (v : Value) (n : Nat) : Prop := ∃ A c, v = .slice A n c ∧ n ≤ maxLen
theorem Rd.ln {w : World} {v : Value} {sz n : Nat} {xs : List Value} (h : Rd w v sz n xs) : Ln v n := by
  obtain ⟨_, h2, A, c, h3, _⟩ := h
  exact ⟨A, c, h3, h2⟩

theorem Rd.keep {w w' : World} {v : Value} {sz n : Nat} {xs : List Value} (h : Rd w v sz n xs) (hs : w.heap.size ≤ w'.heap.size) (hk : ∀ k, k < w.heap.size → w'.heap[k]? = w.heap[k]?) : Rd w' v sz n xs := by
  obtain ⟨h1, h2, A, c, h3, h4, h5, h6⟩ := h
  refine ⟨h1, h2, A, c, h3, h4, h5, fun hn => ?_⟩
  obtain ⟨ad, e, hb, hc⟩ := h6 hn
  refine ⟨ad, e, by omega, fun j u hu => ?_⟩
  have hbl : (ad.add j).block = ad.block := by unfold Addr.add; split <;> rfl
  rw [World.cell?_of_block (w := w) (hk _ (by rw [hbl]; exact hb))]
  exact hc j u hu
theorem Rd.below {w w' : World} {v : Value} {sz n : Nat} {xs : List Value} (h : Rd w v sz n xs) (hb : Below w.heap.size w w') : Rd w' v sz n xs := h.keep hb.size hb.block
theorem RI.below {w w' : World} {v : Value} {xs : List Int} (h : RI w v xs) (hb : Below w.heap.size w w') : RI w' v xs := Rd.below h hb
theorem RII.below {w w' : World} {v : Value} {us : List Value} {xss : List (List Int)} (h : RII w v us xss) (hb : Below w.heap.size w w') : RII w' v us xss :=
  ⟨h.1.below hb, h.2.1, fun i hi => (h.2.2 i hi).below hb⟩
theorem rd_nil (w : World) (sz : Nat) : Rd w (.slice none 0 0) sz 0 [] := ⟨by simp, by simp [maxLen], none, 0, rfl, Nat.le_refl _, fun _ => rfl, fun h => absurd h (by omega)⟩
theorem ri_nil (w : World) : RI w (.slice none 0 0) [] := rd_nil w 1
theorem rii_nil (w : World) : RII w (.slice none 0 0) [] [] := ⟨rd_nil w 1, rfl, fun i hi => absurd hi (by simp)⟩

/-- The block of a slice that has room. -/
def obk : Value → Option Nat
  | .slice (some a) _ c => if c = 0 then none else some a.block
  | _ => none
/-- The slice value v owns its cells: it has no room at all, or it stands at the head of a block of the call's own. -/
def Own (w : World) (B : Nat) (e : TypeId) (sz : Nat) (v : Value) (n : Nat) (xs : List Value) : Prop :=
  xs.length = n * sz ∧ (((∃ A, v = .slice A 0 0) ∧ n = 0) ∨
    ∃ g cap cur, v = .slice (some ⟨g, 0, none⟩) n cap ∧ 0 < cap ∧ B ≤ g ∧ w.heap[g]? = some (.cells cur e (0, 0)) ∧ n ≤ cap ∧ cap ≤ maxLen ∧ cur.size = cap * sz ∧ cur.toList.take (n * sz) = xs)
theorem obk_zero (A : Option Addr) : obk (.slice A 0 0) = none := by cases A <;> rfl
theorem obk_own {v : Value} {k : Nat} (h : obk v = some k) : v.ownBlock = some k := by
  unfold obk at h
  split at h
  · split at h
    · cases h
    · exact h
  · cases h
theorem own_obk {g n cap : Nat} (h : 0 < cap) : obk (.slice (some ⟨g, 0, none⟩) n cap) = some g := by
  show (if cap = 0 then none else some g) = some g
  rw [if_neg (by omega)]
theorem Own.of {w : World} {B : Nat} {e : TypeId} {sz n : Nat} {v : Value} {xs : List Value} (h : w.ownsRow B e sz v n xs) : Own w B e sz v n xs := by
  refine ⟨h.1, ?_⟩
  rcases h.2 with ⟨rfl, rfl⟩ | ⟨g, cap, cur, rfl, hb, hg, hnc, rest⟩
  · exact .inl ⟨⟨none, rfl⟩, rfl⟩
  · rcases Nat.eq_zero_or_pos cap with h0 | h0
    · subst h0
      obtain rfl : n = 0 := by omega
      exact .inl ⟨⟨_, rfl⟩, rfl⟩
    · exact .inr ⟨g, cap, cur, rfl, h0, hb, hg, hnc, rest⟩
theorem Own.lt {w : World} {B : Nat} {e : TypeId} {sz n : Nat} {v : Value} {xs : List Value} (h : Own w B e sz v n xs) : ∀ k, obk v = some k → B ≤ k ∧ k < w.heap.size := by
  intro k hk
  rcases h.2 with ⟨⟨A, rfl⟩, _⟩ | ⟨g, cap, cur, rfl, h0, hb, hg, _⟩
  · rw [obk_zero] at hk; cases hk
  · rw [own_obk h0] at hk
    have := Option.some.inj hk
    subst this
    exact ⟨hb, (Array.getElem?_eq_some_iff.1 hg).1⟩
theorem Own.nil (w : World) (B : Nat) (e : TypeId) (sz : Nat) : Own w B e sz (.slice none 0 0) 0 [] := ⟨by simp, .inl ⟨⟨none, rfl⟩, rfl⟩⟩
theorem Own.keep {B : Nat} {w w' : World} {e : TypeId} {sz n : Nat} {v : Value} {xs : List Value} (h : Own w B e sz v n xs) (hk : ∀ k, obk v = some k → w'.heap[k]? = w.heap[k]?) : Own w' B e sz v n xs := by
  refine ⟨h.1, ?_⟩
  rcases h.2 with hn | ⟨g, cap, cur, rfl, h0, hb, hgg, rest⟩
  · exact .inl hn
  · exact .inr ⟨g, cap, cur, rfl, h0, hb, by rw [hk g (own_obk h0)]; exact hgg, rest⟩
theorem Own.base {B B' : Nat} {w : World} {e : TypeId} {sz n : Nat} {v : Value} {xs : List Value} (h : Own w B e sz v n xs) (hB : B' ≤ B) : Own w B' e sz v n xs := by
  refine ⟨h.1, ?_⟩
  rcases h.2 with hn | ⟨g, cap, cur, hv, h0, hb, rest⟩
  · exact .inl hn
  · exact .inr ⟨g, cap, cur, hv, h0, by omega, rest⟩

/-- What is owned. row: a slice at the head of a block of its own (or nil). blk: a block known whole. tab: a slice of rows of ints, each in a block of its own; 'hole': that row is told elsewhere. -/
inductive Ck where
  | row (v : Value) (e : TypeId) (sz n : Nat) (xs : List Value)
  | blk (g : Nat) (e : TypeId) (cs : List Value)
  | tab (v : Value) (e e' : TypeId) (us : List Value) (xss : List (List Int)) (hole : Option Nat)

abbrev rowI (e : TypeId) (v : Value) (zs : List Int) : Ck := .row v e 1 zs.length (ints zs)
abbrev strs (ss : List ByteArray) : List Value := ss.map Value.string
abbrev rowS (e : TypeId) (v : Value) (ss : List ByteArray) : Ck := .row v e 1 ss.length (strs ss)
abbrev tabI (e e' : TypeId) (v : Value) (us : List Value) (xss : List (List Int)) : Ck := .tab v e e' us xss none
/-- Nothing. -/
abbrev nilCk : Ck := .row (.slice none 0 0) 0 1 0 []

def Ck.foot : Ck → Nat → Prop
  | .row v _ _ _ _, k => obk v = some k
  | .blk g _ _, k => g = k
  | .tab v _ _ us _ h, k => obk v = some k ∨ ∃ i, i < us.length ∧ some i ≠ h ∧ obk (us.getD i undef) = some k

def RowOk (B : Nat) (w : World) (e : TypeId) (u : Value) (ys : List Int) : Prop := Own w B e 1 u ys.length (ints ys)

def Ck.ok (B : Nat) (w : World) : Ck → Prop
  | .row v e sz n xs => Own w B e sz v n xs
  | .blk g e cs => B ≤ g ∧ w.heap[g]? = some (.cells cs.toArray e (0, 0))
  | .tab v e e' us xss h => Own w B e 1 v xss.length us ∧ us.length = xss.length ∧ (∀ i, i < us.length → some i ≠ h → RowOk B w e' (us.getD i undef) (xss.getD i [])) ∧
      ∀ i, i < us.length → ∀ k, obk (us.getD i undef) = some k → obk v ≠ some k ∧ ∀ j, j < us.length → j ≠ i → obk (us.getD j undef) ≠ some k

def Apart (c d : Ck) : Prop := ∀ k, c.foot k → ¬ d.foot k
theorem Apart.symm {c d : Ck} (h : Apart c d) : Apart d c := fun k hd hc => h k hc hd

/-- The class of worlds: old memory is as it was; these chunks are there, and apart. -/
def Hp (w0 : World) (os : List Ck) (w : World) : Prop :=
  Below w0.heap.size w0 w ∧ (∀ c ∈ os, c.ok w0.heap.size w) ∧ os.Pairwise Apart

theorem Hp.start (w : World) : Hp w [] w := ⟨Below.refl _ _, by simp, .nil⟩
theorem Hp.drew {w0 w : World} {os : List Ck} (h : Hp w0 os w) : Hp w0 os { w with drawn := w.drawn + 1 } := by
  refine ⟨⟨h.1.os, h.1.tape, h.1.output, h.1.size, h.1.block⟩, ?_, h.2.2⟩
  intro c hc
  have := h.2.1 c hc
  cases c <;> exact this
theorem Hp.sublist {w0 w : World} {os os' : List Ck} (h : Hp w0 os w) (hs : os'.Sublist os) : Hp w0 os' w :=
  ⟨h.1, fun c hc => h.2.1 c (hs.mem hc), h.2.2.sublist hs⟩
theorem Hp.perm {w0 w : World} {os os' : List Ck} (h : Hp w0 os w) (hs : os'.Perm os) : Hp w0 os' w :=
  ⟨h.1, fun c hc => h.2.1 c (hs.mem_iff.1 hc), h.2.2.perm hs.symm Apart.symm⟩

/-- The footprint lies in the world. -/
theorem Ck.ok.lt {B : Nat} {w : World} {c : Ck} (h : c.ok B w) : ∀ k, c.foot k → B ≤ k ∧ k < w.heap.size := by
  intro k hk
  cases c with
  | row v e sz n xs => exact Own.lt h k hk
  | blk g e cs =>
    have : g = k := hk
    subst this
    exact ⟨h.1, by
      rcases Nat.lt_or_ge g w.heap.size with h' | h'
      · exact h'
      · have := h.2; rw [Array.getElem?_eq_none h'] at this; cases this⟩
  | tab v e e' us xss hole =>
    rcases hk with hk | ⟨i, hi, hne, hk⟩
    · exact Own.lt h.1 k hk
    · exact Own.lt (h.2.2.1 i hi hne) k hk

/-- A chunk stays where the blocks of its footprint stay. -/
theorem Ck.ok.keep {B : Nat} {w w' : World} {c : Ck} (h : c.ok B w) (hk : ∀ k, c.foot k → w'.heap[k]? = w.heap[k]?) : c.ok B w' := by
  cases c with
  | row v e sz n xs => exact Own.keep h hk
  | blk g e cs => exact ⟨h.1, by rw [hk g rfl]; exact h.2⟩
  | tab v e e' us xss hole => exact ⟨Own.keep h.1 fun k hv => hk k (.inl hv), h.2.1, fun i hi hne => Own.keep (h.2.2.1 i hi hne) fun k hu => hk k (.inr ⟨i, hi, hne, hu⟩), h.2.2.2⟩
theorem Ck.ok.base {B B' : Nat} {w : World} {c : Ck} (h : c.ok B w) (hB : B' ≤ B) : c.ok B' w := by
  cases c with
  | row v e sz n xs => exact Own.base h hB
  | blk g e cs => exact ⟨by have := h.1; omega, h.2⟩
  | tab v e e' us xss hole => exact ⟨Own.base h.1 hB, h.2.1, fun i hi hne => Own.base (h.2.2.1 i hi hne) hB, h.2.2.2⟩

/-- What a world owns of a later class is owned after the call: a callee's chunks come ahead of the caller's. -/
theorem Hp.after {w0 w w' : World} {os rs : List Ck} (h : Hp w0 os w) (h' : Hp w rs w') : Hp w0 (rs ++ os) w' := by
  have hsz := h.1.size
  refine ⟨h.1.trans (h'.1.mono hsz), ?_, ?_⟩
  · intro c hc
    rcases List.mem_append.1 hc with hc | hc
    · exact (h'.2.1 c hc).base hsz
    · exact (h.2.1 c hc).keep fun k hk => h'.1.block k ((h.2.1 c hc).lt k hk).2
  · rw [List.pairwise_append]
    refine ⟨h'.2.2, h.2.2, fun c hc d hd k hk hk' => ?_⟩
    have h1 := ((h'.2.1 c hc).lt k hk).1
    have h2 := ((h.2.1 d hd).lt k hk').2
    omega
theorem Hp.after0 {w0 w w' : World} {os : List Ck} (h : Hp w0 os w) (h' : Hp w [] w') : Hp w0 os w' := by simpa using h.after h'

/-- One chunk gives way to another whose blocks are its own or new; only its blocks have turned. -/
theorem Hp.turn {w0 w w' : World} {c c' : Ck} {os : List Ck} (h : Hp w0 (c :: os) w) (ho : w'.os = w.os) (ht : w'.tape = w.tape) (hu : w'.output = w.output)
    (hs : w.heap.size ≤ w'.heap.size) (hk : ∀ k, k < w.heap.size → ¬ c.foot k → w'.heap[k]? = w.heap[k]?) (hc : c'.ok w0.heap.size w') (hf : ∀ k, c'.foot k → c.foot k ∨ w.heap.size ≤ k) :
    Hp w0 (c' :: os) w' := by
  have hp := List.pairwise_cons.1 h.2.2
  have h0 := h.2.1 c (by simp)
  refine ⟨⟨ho.trans h.1.os, ht.trans h.1.tape, hu.trans h.1.output, Nat.le_trans h.1.size hs, fun k hkk => ?_⟩, ?_, ?_⟩
  · rw [hk k (Nat.lt_of_lt_of_le hkk h.1.size) (fun hf => by have := (h0.lt k hf).1; omega)]
    exact h.1.block k hkk
  · intro d hd
    rcases List.mem_cons.1 hd with rfl | hd
    · exact hc
    · have h1 := h.2.1 d (by simp [hd])
      exact h1.keep fun k hk' => hk k (h1.lt k hk').2 (fun hc => hp.1 d hd k hc hk')
  · refine List.pairwise_cons.2 ⟨fun d hd k hk1 hk2 => ?_, hp.2⟩
    rcases hf k hk1 with h1 | h1
    · exact hp.1 d hd k h1 hk2
    · have := ((h.2.1 d (by simp [hd])).lt k hk2).2
      omega

/-- A new chunk in new blocks. -/
theorem Hp.new {w0 w w' : World} {c : Ck} {os : List Ck} (h : Hp w0 os w) (hb : Below w.heap.size w w') (hc : c.ok w.heap.size w') : Hp w0 (c :: os) w' :=
  h.after (rs := [c]) ⟨hb, by simpa using hc, by simp⟩

/-- Nothing is owned of nil. -/
theorem Hp.nil {w0 w : World} {os : List Ck} (h : Hp w0 os w) (e : TypeId) (sz : Nat) : Hp w0 (.row (.slice none 0 0) e sz 0 [] :: os) w :=
  h.new (Below.refl _ _) (Own.nil _ _ _ _)
theorem Hp.nilTab {w0 w : World} {os : List Ck} (h : Hp w0 os w) (e e' : TypeId) : Hp w0 (.tab (.slice none 0 0) e e' [] [] none :: os) w :=
  h.new (Below.refl _ _) ⟨Own.nil _ _ _ _, rfl, fun i hi => absurd hi (by simp), fun i hi => absurd hi (by simp)⟩

theorem Hp.alloc {w0 w : World} {os : List Ck} (h : Hp w0 os w) (cs : Array Value) (e : TypeId) : Hp w0 (.blk w.heap.size e cs.toList :: os) (w.alloc (.cells cs e)) :=
  h.new ((Below.refl _ _).alloc (Nat.le_refl _) _) ⟨Nat.le_refl _, by simpa using heap_alloc_new w (.cells cs e)⟩

/-- What is owned reads. -/
theorem rd_own {B : Nat} {w : World} {e : TypeId} {sz n : Nat} {v : Value} {xs : List Value} (h : Own w B e sz v n xs) : Rd w v sz n xs := by
  rcases h.2 with ⟨⟨A, rfl⟩, rfl⟩ | ⟨g, cap, cur, rfl, h0, hb, hg, hnc, hcm, hcs, ht⟩
  · exact ⟨by simpa using h.1, by simp [maxLen], A, 0, rfl, Nat.le_refl _, fun _ => rfl, fun hh => absurd hh (by omega)⟩
  · have hr : w.ownsRow B e sz (.slice (some ⟨g, 0, none⟩) n cap) n xs := ⟨h.1, .inr ⟨g, cap, cur, rfl, hb, hg, hnc, hcm, hcs, ht⟩⟩
    refine ⟨h.1, Nat.le_trans hnc hcm, some ⟨g, 0, none⟩, cap, rfl, hnc, by simp, fun _ => ⟨_, rfl, ?_, hr.cells (g := g) rfl⟩⟩
    exact (Array.getElem?_eq_some_iff.1 hg).1

section
variable {w0 : World} {os : List Ck} {v : Value}
theorem Hp.get {w : World} (h : Hp w0 os w) (i : Nat) {c : Ck} (hi : os[i]? = some c) : c.ok w0.heap.size w := h.2.1 c (List.mem_of_getElem? hi)
theorem rd_arg {sz n : Nat} {xs : List Value} (h : Rd w0 v sz n xs) : ∀ w, Hp w0 os w → Rd w v sz n xs := fun _ hw => h.below hw.1
theorem ri_arg {xs : List Int} (h : RI w0 v xs) : ∀ w, Hp w0 os w → RI w v xs := fun _ hw => h.below hw.1
theorem rii_arg {us : List Value} {xss : List (List Int)} (h : RII w0 v us xss) : ∀ w, Hp w0 os w → RII w v us xss := fun _ hw => h.below hw.1
theorem rd_row (i : Nat) {e : TypeId} {sz n : Nat} {xs : List Value} (hi : os[i]? = some (.row v e sz n xs)) : ∀ w, Hp w0 os w → Rd w v sz n xs := fun _ hw => rd_own (hw.get i hi)
theorem ri_row (i : Nat) {e : TypeId} {xs : List Int} (hi : os[i]? = some (.row v e 1 xs.length (ints xs))) : ∀ w, Hp w0 os w → RI w v xs := fun _ hw => rd_own (hw.get i hi)
theorem ri_tab (i : Nat) {e e' : TypeId} {us : List Value} {xss : List (List Int)} (j : Nat) (hi : os[i]? = some (.tab v e e' us xss none)) (hj : j < xss.length) : ∀ w, Hp w0 os w → RI w (us.getD j undef) (xss.getD j []) :=
  fun _ hw => by
    have h := hw.get i hi
    exact rd_own (h.2.2.1 j (by rw [h.2.1]; exact hj) (by simp))
theorem rii_tab (i : Nat) {e e' : TypeId} {us : List Value} {xss : List (List Int)} (hi : os[i]? = some (.tab v e e' us xss none)) : ∀ w, Hp w0 os w → RII w v us xss :=
  fun _ hw => by
    have h := hw.get i hi
    exact ⟨rd_own h.1, h.2.1, fun k hk => rd_own (h.2.2.1 k (by rw [h.2.1]; exact hk) (by simp))⟩
end

theorem RII.row {w : World} {v : Value} {us : List Value} {xss : List (List Int)} (h : RII w v us xss) {i : Nat} (hi : i < xss.length) : RI w (us.getD i undef) (xss.getD i []) := h.2.2 i hi

end Go.Proofs.Ytcmhgkcifejgcaa
