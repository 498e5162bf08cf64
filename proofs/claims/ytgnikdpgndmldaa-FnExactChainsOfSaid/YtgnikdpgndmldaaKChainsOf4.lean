/-
  Part of a proof: rules of the walk, plain functions and their laws, walks. No condition.
-/
import Derived.Test.YtgnikdpgndmldaaKChainsOf3
import Derived.Test.YtgnikdpgndmldaaProg
namespace Go.Proofs.Ytgnikdpgndmldaa
set_option linter.unusedVariables false
set_option linter.unusedSimpArgs false
open Go Go.RowKit
set_option linter.unusedVariables false

theorem slT_25 : SlT Try.prog 25 3 (.int .i64 0) 1 8 := ⟨Try.underlying25, by kernel_rfl, rfl, by decide⟩
theorem slT_22 : SlT Try.prog 22 25 (.slice none 0 0) 1 24 := ⟨Try.underlying22, by kernel_rfl, rfl, by decide⟩
theorem slT_64 : SlT Try.prog 64 4 (.bool false) 1 1 := ⟨Try.underlying64, by kernel_rfl, rfl, by decide⟩
theorem one_3 : One Try.prog 3 := ⟨fun _ => by kernel_rfl, by kernel_rfl⟩
theorem one_4 : One Try.prog 4 := ⟨fun _ => by kernel_rfl, by kernel_rfl⟩
theorem one_9 : One Try.prog 9 := ⟨fun _ => by kernel_rfl, by kernel_rfl⟩
theorem one_5 : One Try.prog 5 := ⟨fun _ => by kernel_rfl, by kernel_rfl⟩
theorem one_25 : One Try.prog 25 := ⟨fun _ => by kernel_rfl, by kernel_rfl⟩
theorem one_22 : One Try.prog 22 := ⟨fun _ => by kernel_rfl, by kernel_rfl⟩
theorem one_87 : One Try.prog 87 := ⟨fun _ => by kernel_rfl, by kernel_rfl⟩
theorem fa_29_0 (b : Nat) (w : World) : (Instr.fieldAt 29 (.pointer (some ⟨b, 0, none⟩)) 0).run Try.prog w = .ok (.pointer (some ⟨b, 0, none⟩)) w := by kernel_rfl
theorem agg_29 : AggT Try.prog 29 1 := ⟨.inl ⟨_, Try.underlying29⟩, by kernel_rfl⟩
theorem bd_29_0 (w : World) : (Instr.build 29 #[]).run Try.prog w = .ok (.agg #[.slice none 0 0]) w := by kernel_rfl
theorem bd_29_1 (A : Option Addr) (n c : Nat) (w : World) : (Instr.build 29 #[(0, .slice A n c)]).run Try.prog w = .ok (.agg #[.slice A n c]) w := by kernel_rfl
theorem fd_29_0 (v : Value) (w : World) : (Instr.field 29 (.agg #[v]) 0).run Try.prog w = .ok v w := by kernel_rfl
theorem fa_24_0 (b : Nat) (w : World) : (Instr.fieldAt 24 (.pointer (some ⟨b, 0, none⟩)) 0).run Try.prog w = .ok (.pointer (some ⟨b, 0, none⟩)) w := by kernel_rfl
theorem agg_24 : AggT Try.prog 24 1 := ⟨.inl ⟨_, Try.underlying24⟩, by kernel_rfl⟩
theorem bd_24_0 (w : World) : (Instr.build 24 #[]).run Try.prog w = .ok (.agg #[.slice none 0 0]) w := by kernel_rfl
theorem bd_24_1 (A : Option Addr) (n c : Nat) (w : World) : (Instr.build 24 #[(0, .slice A n c)]).run Try.prog w = .ok (.agg #[.slice A n c]) w := by kernel_rfl
theorem fd_24_0 (v : Value) (w : World) : (Instr.field 24 (.agg #[v]) 0).run Try.prog w = .ok v w := by kernel_rfl
theorem en_2 : En Try.prog 2 := en_of Try.func2 (by kernel_rfl) (by kernel_rfl)
theorem en_3 : En Try.prog 3 := en_of Try.func3 (by kernel_rfl) (by kernel_rfl)
theorem en_4 : En Try.prog 4 := en_of Try.func4 (by kernel_rfl) (by kernel_rfl)
theorem en_5 : En Try.prog 5 := en_of Try.func5 (by kernel_rfl) (by kernel_rfl)
theorem en_6 : En Try.prog 6 := en_of Try.func6 (by kernel_rfl) (by kernel_rfl)
theorem en_7 : En Try.prog 7 := en_of Try.func7 (by kernel_rfl) (by kernel_rfl)
theorem en_8 : En Try.prog 8 := en_of Try.func8 (by kernel_rfl) (by kernel_rfl)
theorem en_9 : En Try.prog 9 := en_of Try.func9 (by kernel_rfl) (by kernel_rfl)
theorem en_10 : En Try.prog 10 := en_of Try.func10 (by kernel_rfl) (by kernel_rfl)
theorem en_11 : En Try.prog 11 := en_of Try.func11 (by kernel_rfl) (by kernel_rfl)
theorem en_12 : En Try.prog 12 := en_of Try.func12 (by kernel_rfl) (by kernel_rfl)
theorem en_13 : En Try.prog 13 := en_of Try.func13 (by kernel_rfl) (by kernel_rfl)
theorem en_14 : En Try.prog 14 := en_of Try.func14 (by kernel_rfl) (by kernel_rfl)
theorem en_15 : En Try.prog 15 := en_of Try.func15 (by kernel_rfl) (by kernel_rfl)
theorem en_16 : En Try.prog 16 := en_of Try.func16 (by kernel_rfl) (by kernel_rfl)
theorem en_17 : En Try.prog 17 := en_of Try.func17 (by kernel_rfl) (by kernel_rfl)
theorem en_18 : En Try.prog 18 := en_of Try.func18 (by kernel_rfl) (by kernel_rfl)
theorem en_19 : En Try.prog 19 := en_of Try.func19 (by kernel_rfl) (by kernel_rfl)
theorem en_20 : En Try.prog 20 := en_of Try.func20 (by kernel_rfl) (by kernel_rfl)
theorem en_21 : En Try.prog 21 := en_of Try.func21 (by kernel_rfl) (by kernel_rfl)
theorem en_22 : En Try.prog 22 := en_of Try.func22 (by kernel_rfl) (by kernel_rfl)
theorem en_23 : En Try.prog 23 := en_of Try.func23 (by kernel_rfl) (by kernel_rfl)
theorem en_24 : En Try.prog 24 := en_of Try.func24 (by kernel_rfl) (by kernel_rfl)
theorem en_25 : En Try.prog 25 := en_of Try.func25 (by kernel_rfl) (by kernel_rfl)
theorem en_26 : En Try.prog 26 := en_of Try.func26 (by kernel_rfl) (by kernel_rfl)
theorem en_27 : En Try.prog 27 := en_of Try.func27 (by kernel_rfl) (by kernel_rfl)
theorem en_28 : En Try.prog 28 := en_of Try.func28 (by kernel_rfl) (by kernel_rfl)
theorem en_29 : En Try.prog 29 := en_of Try.func29 (by kernel_rfl) (by kernel_rfl)
theorem en_30 : En Try.prog 30 := en_of Try.func30 (by kernel_rfl) (by kernel_rfl)
theorem en_31 : En Try.prog 31 := en_of Try.func31 (by kernel_rfl) (by kernel_rfl)
theorem en_32 : En Try.prog 32 := en_of Try.func32 (by kernel_rfl) (by kernel_rfl)
theorem en_33 : En Try.prog 33 := en_of Try.func33 (by kernel_rfl) (by kernel_rfl)
theorem en_34 : En Try.prog 34 := en_of Try.func34 (by kernel_rfl) (by kernel_rfl)
theorem en_35 : En Try.prog 35 := en_of Try.func35 (by kernel_rfl) (by kernel_rfl)
theorem en_36 : En Try.prog 36 := en_of Try.func36 (by kernel_rfl) (by kernel_rfl)
theorem en_37 : En Try.prog 37 := en_of Try.func37 (by kernel_rfl) (by kernel_rfl)
theorem en_38 : En Try.prog 38 := en_of Try.func38 (by kernel_rfl) (by kernel_rfl)
theorem en_39 : En Try.prog 39 := en_of Try.func39 (by kernel_rfl) (by kernel_rfl)
theorem en_40 : En Try.prog 40 := en_of Try.func40 (by kernel_rfl) (by kernel_rfl)
theorem en_41 : En Try.prog 41 := en_of Try.func41 (by kernel_rfl) (by kernel_rfl)
theorem en_42 : En Try.prog 42 := en_of Try.func42 (by kernel_rfl) (by kernel_rfl)
theorem en_43 : En Try.prog 43 := en_of Try.func43 (by kernel_rfl) (by kernel_rfl)
theorem en_44 : En Try.prog 44 := en_of Try.func44 (by kernel_rfl) (by kernel_rfl)
theorem en_45 : En Try.prog 45 := en_of Try.func45 (by kernel_rfl) (by kernel_rfl)
theorem en_46 : En Try.prog 46 := en_of Try.func46 (by kernel_rfl) (by kernel_rfl)
theorem en_47 : En Try.prog 47 := en_of Try.func47 (by kernel_rfl) (by kernel_rfl)
theorem en_48 : En Try.prog 48 := en_of Try.func48 (by kernel_rfl) (by kernel_rfl)
theorem en_49 : En Try.prog 49 := en_of Try.func49 (by kernel_rfl) (by kernel_rfl)
theorem en_50 : En Try.prog 50 := en_of Try.func50 (by kernel_rfl) (by kernel_rfl)
theorem en_51 : En Try.prog 51 := en_of Try.func51 (by kernel_rfl) (by kernel_rfl)
theorem en_52 : En Try.prog 52 := en_of Try.func52 (by kernel_rfl) (by kernel_rfl)
theorem en_53 : En Try.prog 53 := en_of Try.func53 (by kernel_rfl) (by kernel_rfl)
theorem en_54 : En Try.prog 54 := en_of Try.func54 (by kernel_rfl) (by kernel_rfl)
theorem en_55 : En Try.prog 55 := en_of Try.func55 (by kernel_rfl) (by kernel_rfl)
theorem en_56 : En Try.prog 56 := en_of Try.func56 (by kernel_rfl) (by kernel_rfl)
theorem en_57 : En Try.prog 57 := en_of Try.func57 (by kernel_rfl) (by kernel_rfl)
theorem en_58 : En Try.prog 58 := en_of Try.func58 (by kernel_rfl) (by kernel_rfl)
theorem en_59 : En Try.prog 59 := en_of Try.func59 (by kernel_rfl) (by kernel_rfl)
theorem en_60 : En Try.prog 60 := en_of Try.func60 (by kernel_rfl) (by kernel_rfl)
theorem en_61 : En Try.prog 61 := en_of Try.func61 (by kernel_rfl) (by kernel_rfl)
theorem en_62 : En Try.prog 62 := en_of Try.func62 (by kernel_rfl) (by kernel_rfl)
theorem en_63 : En Try.prog 63 := en_of Try.func63 (by kernel_rfl) (by kernel_rfl)
theorem en_64 : En Try.prog 64 := en_of Try.func64 (by kernel_rfl) (by kernel_rfl)
theorem en_65 : En Try.prog 65 := en_of Try.func65 (by kernel_rfl) (by kernel_rfl)
theorem en_66 : En Try.prog 66 := en_of Try.func66 (by kernel_rfl) (by kernel_rfl)
theorem en_67 : En Try.prog 67 := en_of Try.func67 (by kernel_rfl) (by kernel_rfl)
theorem en_68 : En Try.prog 68 := en_of Try.func68 (by kernel_rfl) (by kernel_rfl)
theorem en_69 : En Try.prog 69 := en_of Try.func69 (by kernel_rfl) (by kernel_rfl)
theorem en_70 : En Try.prog 70 := en_of Try.func70 (by kernel_rfl) (by kernel_rfl)
theorem en_71 : En Try.prog 71 := en_of Try.func71 (by kernel_rfl) (by kernel_rfl)
theorem en_72 : En Try.prog 72 := en_of Try.func72 (by kernel_rfl) (by kernel_rfl)
theorem en_73 : En Try.prog 73 := en_of Try.func73 (by kernel_rfl) (by kernel_rfl)
theorem en_74 : En Try.prog 74 := en_of Try.func74 (by kernel_rfl) (by kernel_rfl)
theorem en_75 : En Try.prog 75 := en_of Try.func75 (by kernel_rfl) (by kernel_rfl)
theorem en_76 : En Try.prog 76 := en_of Try.func76 (by kernel_rfl) (by kernel_rfl)

end Go.Proofs.Ytgnikdpgndmldaa
namespace Go.Proofs.Ytgnikdpgndmldaa
set_option linter.unusedVariables false
set_option linter.unusedSimpArgs false
open Go Go.RowKit

/-- A block that is only read. -/
def BlkAt (w : World) (b : Nat) (cs : List Value) : Prop := b < w.heap.size ∧ ∀ (j : Nat) (u : Value), cs[j]? = some u → w.cell? ⟨b, j, none⟩ = some u
theorem BlkAt.below {w w' : World} {b : Nat} {cs : List Value} (h : BlkAt w b cs) (hb : Below w.heap.size w w') : BlkAt w' b cs :=
  ⟨Nat.lt_of_lt_of_le h.1 hb.size, fun j u hu => (hb.cell (p := ⟨b, j, none⟩) h.1).trans (h.2 j u hu)⟩
/-- A pointer that may be nil, and its block. -/
def wptr (o : Bool) (b : Nat) : Value := bif o then .pointer (some ⟨b, 0, none⟩) else .pointer none
def wblk (o : Bool) (b : Nat) (e : TypeId) (cs : List Value) : Ck := bif o then .blk b e cs else nilCk
theorem wptr_t {o : Bool} (h : o = true) (b : Nat) : wptr o b = .pointer (some ⟨b, 0, none⟩) := by subst h; rfl
theorem wblk_t {o : Bool} (h : o = true) (b : Nat) (e : TypeId) (cs : List Value) : wblk o b e cs = .blk b e cs := by subst h; rfl
section
variable {P : Program} {ops : Array Oper} {Q : Exit → Act → World → Prop} {N : Nat} {C : World → Prop} {rest : List Oper} {l : Sl}
variable {w0 : World} {os : List Ck} {v u : Value} {t t' e : TypeId} {d k : Nat} {x y : Operand} {ty : TypeId} {ps : String} {af : Array Edge} {dd : Option Tmp} {g : Option (Nat × Bool)} {m n : Int}
theorem y_pickKT {c : Operand} {b : Bool} (hc : Ev l c (.bool b)) (h : b = true) (hx : Ev l x v) : Ys P C N l ⟨dd, .pick c x y, ty, ps, af, g⟩ v := y_pick hc (fun _ => hx) (fun h' => by rw [h] at h'; cases h')
theorem y_pickKF {c : Operand} {b : Bool} (hc : Ev l c (.bool b)) (h : b = false) (hy : Ev l y v) : Ys P C N l ⟨dd, .pick c x y, ty, ps, af, g⟩ v := y_pick hc (fun h' => by rw [h] at h'; cases h') (fun _ => hy)
theorem blk_at {w : World} {b : Nat} {cs : List Value} (i : Nat) (ho : os[i]? = some (.blk b e cs)) (hw : Hp w0 os w) : BlkAt w b cs := by
  have h := hw.get i ho
  refine ⟨(h.lt b rfl).2, fun j u hu => ?_⟩
  rw [cell_of_row w b j cs.toArray e (0, 0) h.2]
  simpa using hu
theorem y_ldk {b j : Nat} {cs : List Value} (hx : Ev l x (.pointer (some ⟨b, j, none⟩))) (hT : One P t) (hc : BlkAt w0 b cs) (hu : cs[j]? = some u) : Ys P (Hp w0 os) N l ⟨dd, .load t x, ty, ps, af, g⟩ u := yl_of fun a w hs hw => by
  have h1 := (hc.below hw.1).2 j u hu
  have h2 := hx N a hs
  simp [execOp, h2, Instr.loadAt, Instr.sureAddr, loadVar, hT.1 w, h1]
theorem y_bldW {v1 v2 : Value} {n1 n2 : Nat} (hx : Ev l x (.agg #[v1])) (hy : Ev l y v2) (h : ∀ A n c A2 n2 c2 w, (Instr.build t #[(0, .agg #[.slice A n c]), (1, .slice A2 n2 c2)]).run P w = .ok (.agg #[.slice A n c, .slice A2 n2 c2, .slice none 0 0]) w)
    (hl : ∀ w, C w → Ln v1 n1) (hl2 : ∀ w, C w → Ln v2 n2) : Ys P C N l ⟨dd, .build t #[(0, x), (1, y)], ty, ps, af, g⟩ (.agg #[v1, v2, .slice none 0 0]) := yl_of fun a w hs hw => by
  obtain ⟨A, c, rfl, _⟩ := hl w hw
  obtain ⟨A2, c2, rfl, _⟩ := hl2 w hw
  simp [execOp, hx N a hs, hy N a hs, h]
theorem y_bldF (hx : Ev l x (.int .i64 m)) (h : ∀ m w, (Instr.build t #[(0, .int .i64 m)]).run P w = .ok (.agg #[.int .i64 m, .slice none 0 0]) w) : Ys P C N l ⟨dd, .build t #[(0, x)], ty, ps, af, g⟩ (.agg #[.int .i64 m, .slice none 0 0]) := yl_of fun a w hs hw => by
  simp [execOp, hx N a hs, h]
theorem TL.boxW {v1 v2 : Value} {n1 n2 : Nat} (hx : Ev l x (.agg #[v1, v2, .slice none 0 0])) (hl : ∀ w, Hp w0 os w → Ln v1 n1) (hl2 : ∀ w, Hp w0 os w → Ln v2 n2) (hb : Nat.blt d N = true)
    (h : ∀ b, TL P ops Q N (Hp w0 (.blk b e [v1, v2, .slice none 0 0] :: os)) rest ((d, .pointer (some ⟨b, 0, none⟩)) :: l)) :
    TL P ops Q N (Hp w0 os) (⟨some d, .box e x, ty, ps, af, none⟩ :: rest) l := fun a w hs hw => by
  obtain ⟨A, c, rfl, _⟩ := hl w hw
  obtain ⟨A2, c2, rfl, _⟩ := hl2 w hw
  exact TL.box hx hb h a w hs hw
end
theorem fa_48_0 (b : Nat) (w : World) : (Instr.fieldAt 48 (.pointer (some ⟨b, 0, none⟩)) 0).run Try.prog w = .ok (.pointer (some ⟨b, 0, none⟩)) w := by kernel_rfl
theorem fa_48_1 (b : Nat) (w : World) : (Instr.fieldAt 48 (.pointer (some ⟨b, 0, none⟩)) 1).run Try.prog w = .ok (.pointer (some ⟨b, 1, none⟩)) w := by kernel_rfl
theorem bd_48_f (m : Int) (w : World) : (Instr.build 48 #[(0, .int .i64 m)]).run Try.prog w = .ok (.agg #[.int .i64 m, .slice none 0 0]) w := by kernel_rfl
end Go.Proofs.Ytgnikdpgndmldaa
namespace Go.Proofs.Ytgnikdpgndmldaa
set_option linter.unusedVariables false
set_option linter.unusedSimpArgs false
open Go Go.RowKit

/-- A variable of one cell of a struct's type. -/
def AggAt (w : World) (b : Nat) (e : TypeId) (u : Value) : Prop := b < w.heap.size ∧ w.heap[b]? = some (.cells #[u] e (0, 0))
theorem AggAt.below {w w' : World} {b : Nat} {e : TypeId} {u : Value} (h : AggAt w b e u) (hb : Below w.heap.size w w') : AggAt w' b e u :=
  ⟨Nat.lt_of_lt_of_le h.1 hb.size, (hb.block b h.1).trans h.2⟩
/-- A row of a table if i is one of its places, else another row. -/
def rowref (us : List Value) (v : Value) (i : Int) : Value := bif decide (0 ≤ i) then us.getD i.toNat undef else v
def rowpure (xss : List (List Int)) (x : List Int) (i : Int) : List Int := bif decide (0 ≤ i) then xss.getD i.toNat [] else x
theorem rowref_t (us : List Value) (v : Value) (k : Nat) : rowref us v (k : Int) = us.getD k undef := by
  unfold rowref; rw [decide_eq_true (by omega)]; rfl
theorem rowref_f (us : List Value) (v : Value) : rowref us v (-1) = v := rfl
theorem rowref_ri {w : World} {us : List Value} {xss : List (List Int)} {tv v : Value} {x : List Int} {i : Int} (h : i < xss.length) (hT : RII w tv us xss) (hx : RI w v x) : RI w (rowref us v i) (rowpure xss x i) := by
  unfold rowref rowpure
  by_cases h0 : 0 ≤ i
  · rw [decide_eq_true h0]; exact hT.row (by omega)
  · rw [decide_eq_false h0]; exact hx
section
variable {P : Program} {ops : Array Oper} {Q : Exit → Act → World → Prop} {N : Nat} {C : World → Prop} {rest : List Oper} {l : Sl}
variable {w0 : World} {os : List Ck} {v u : Value} {t t' e e' : TypeId} {d k m n : Nat} {x y : Operand} {ty : TypeId} {ps : String} {af : Array Edge} {dd : Option Tmp} {g : Option (Nat × Bool)} {z : Value} {bytes : Nat}
theorem agg_blk {w w2 : World} {b : Nat} (i : Nat) (ho : os[i]? = some (.blk b e [u])) (hw : Hp w0 os w) (hb : Below w.heap.size w w2) : AggAt w2 b e u := by
  have h := hw.get i ho
  exact AggAt.below ⟨(h.lt b rfl).2, h.2⟩ hb
theorem y_ldcagg {b : Nat} (hx : Ev l x (.pointer (some ⟨b, 0, none⟩))) (hT : AggT P t 1) (hc : AggAt w0 b e u) : Ys P (Hp w0 os) N l ⟨dd, .load t x, ty, ps, af, g⟩ (.agg #[u]) := yl_of fun a w hs hw => by
  have hr := AggT.load (cs := [u]) hT (hc.below hw.1).2
  simp [execOp, hx N a hs, Instr.loadAt, Instr.sureAddr, hr]
theorem TL.appendG (i q : Nat) {r : Value} {us : List Value} {qs : List Int} (hx : Ev l x v) (hy : Ev l y u) (ho : os[i]? = some (.row v e 1 us.length us)) (hm : os[q]? = some (.row u e 1 1 [r])) (hT : SlT P t e z 1 24)
    (hr : ∀ w, Hp w0 os w → RI w r qs) (hlen : us.length + 1 ≤ 5000000000000) (hb : Nat.blt d N = true)
    (h : ∀ v', TL P ops Q N (Hp w0 (os.set i (.row v' e 1 (us ++ [r]).length (us ++ [r])))) rest ((d, v') :: l)) :
    TL P ops Q N (Hp w0 os) (⟨some d, .call { callee := .builtin .append, args := #[x, y], argTypes := #[t, t] }, ty, ps, af, none⟩ :: rest) l := fun a w hs hw => by
  obtain ⟨A, c, hrv, _⟩ := (hr w hw).ln
  refine TL.append (m := 1) (ys := [r]) i hx hy ho hT (fun w' hw' => rd_own (hw'.get q hm)) (fun p hp => ?_) (by omega) (by unfold maxLen; omega) hb (fun v' => ?_) a w hs hw
  · rw [List.mem_singleton.1 hp, hrv]; rfl
  · have := h v'
    simp only [List.length_append, List.length_cons, List.length_nil] at this
    exact this
theorem Hp.gather0 {w : World} (i : Nat) (e' : TypeId) (hi : os[i]? = some (.row v e 1 ([] : List Value).length [])) (hw : Hp w0 os w) : Hp w0 [tabI e e' v [] []] w :=
  ⟨hw.1, fun c hc => by
    rw [List.mem_singleton.1 hc]
    exact ⟨hw.get i hi, rfl, fun i hi => absurd hi (by simp), fun i hi => absurd hi (by simp)⟩, by simp⟩
theorem Hp.gather {w : World} (i j : Nat) {us tus : List Value} {xss txss : List (List Int)} {tv : Value} (hi : os[i]? = some (.row v e 1 us.length us)) (hj : os[j]? = some (tabI e e' tv tus txss))
    (hg : ∃ lt : List Nat, us = lt.map (fun p => tus.getD p undef) ∧ xss = lt.map (fun p => txss.getD p []) ∧ lt.Nodup ∧ ∀ p ∈ lt, p < txss.length) (hw : Hp w0 os w) : Hp w0 [tabI e e' v us xss] w := by
  obtain ⟨lt, rfl, rfl, hd, hl⟩ := hg
  have hne : i ≠ j := by intro h; subst h; rw [hi] at hj; cases hj
  have h1 : Own w w0.heap.size e 1 v (lt.map (fun p => tus.getD p undef)).length (lt.map (fun p => tus.getD p undef)) := hw.get i hi
  have h2 := hw.get j hj
  have ap := hw.apart hne hi hj
  have gu : ∀ p, (hp : p < lt.length) → (lt.map (fun p => tus.getD p undef)).getD p undef = tus.getD lt[p] undef := fun p hp => by
    rw [getD_lt _ _ _ (by simpa using hp)]; simp
  have gx : ∀ p, (hp : p < lt.length) → (lt.map (fun p => txss.getD p [])).getD p [] = txss.getD lt[p] [] := fun p hp => by
    rw [getD_lt _ _ _ (by simpa using hp)]; simp
  have hb : ∀ p, (hp : p < lt.length) → lt[p] < tus.length := fun p hp => by rw [h2.2.1]; exact hl _ (List.getElem_mem hp)
  refine ⟨hw.1, fun c hc => ?_, by simp⟩
  rw [List.mem_singleton.1 hc]
  refine ⟨by rw [List.length_map] at *; exact h1, by simp, fun p hp _ => ?_, fun p hp k hk => ?_⟩
  · have hp' : p < lt.length := by simpa using hp
    rw [gu p hp', gx p hp']
    exact h2.2.2.1 _ (hb p hp') (by simp)
  · have hp' : p < lt.length := by simpa using hp
    rw [gu p hp'] at hk
    refine ⟨fun hv => ap k hv (.inr ⟨_, hb p hp', by simp, hk⟩), fun q hq hqp => ?_⟩
    have hq' : q < lt.length := by simpa using hq
    rw [gu q hq']
    exact (h2.2.2.2 _ (hb p hp') k hk).2 _ (hb q hq') (fun e => hqp ((List.getElem_inj hd).1 e))
theorem rii_two (i : Nat) {va vb : Value} {a b : List Int} (ho : os[i]? = some (.row v e 1 2 [va, vb])) (ha : ∀ w, Hp w0 os w → RI w va a) (hb : ∀ w, Hp w0 os w → RI w vb b) : ∀ w, Hp w0 os w → RII w v [va, vb] [a, b] := fun w hw =>
  ⟨rd_own (hw.get i ho), rfl, fun j hj => by
    match j, hj with
    | 0, _ => exact ha w hw
    | 1, _ => exact hb w hw⟩
theorem TL.build2 {u2 : Value} (hT : SlT P t e z 1 bytes) (hx : Ev l x u) (hy : Ev l y u2) (hu : ∀ w, Hp w0 os w → Ln u m) (hu2 : ∀ w, Hp w0 os w → Ln u2 n) (hb : Nat.blt d N = true)
    (h : ∀ v', TL P ops Q N (Hp w0 (.row v' e 1 2 [u, u2] :: os)) rest ((d, v') :: l)) :
    TL P ops Q N (Hp w0 os) (⟨some d, .buildSlice t 2 #[(0, x), (1, y)], ty, ps, af, none⟩ :: rest) l := fun a w hs hw => by
  obtain ⟨A, c, rfl, _⟩ := hu w hw
  obtain ⟨A2, c2, rfl, _⟩ := hu2 w hw
  exact TL.buildSlice (parts := [(0, x), (1, y)]) (zs := [x, y]) (vs := [.slice A m c, .slice A2 n c2]) hT rfl ⟨hx, hy, trivial⟩ (by intro q hq; simp only [List.mem_cons, List.not_mem_nil, or_false] at hq; rcases hq with rfl | rfl <;> rfl) rfl (by simp) hb (fun v' => h v') a w hs hw
end
end Go.Proofs.Ytgnikdpgndmldaa
namespace Go.Proofs.Ytgnikdpgndmldaa
set_option linter.unusedVariables false
set_option linter.unusedSimpArgs false
open Go Go.RowKit
set_option linter.unusedVariables false

/-- A table of booleans reads so. -/
def RBB (w : World) (v : Value) (us : List Value) (bss : List (List Bool)) : Prop :=
  Rd w v 1 us.length us ∧ us.length = bss.length ∧ ∀ i, i < bss.length → Rd w (us.getD i undef) 1 (bss.getD i []).length (bools (bss.getD i []))
theorem RBB.below {w w' : World} {v : Value} {us : List Value} {bss : List (List Bool)} (h : RBB w v us bss) (hb : Below w.heap.size w w') : RBB w' v us bss :=
  ⟨h.1.below hb, h.2.1, fun i hi => (h.2.2 i hi).below hb⟩
theorem rbb_len {w : World} {v : Value} {us : List Value} {bss : List (List Bool)} (h : RBB w v us bss) : bss.length ≤ 9223372036854775807 := by rw [← h.2.1]; exact h.1.2.1
theorem rd_len {w : World} {v : Value} {n : Nat} {xs : List Value} (h : Rd w v 1 n xs) : n ≤ 9223372036854775807 := h.2.1
theorem slT_66 : SlT Try.prog 66 64 (.slice none 0 0) 1 24 := ⟨Try.underlying66, by kernel_rfl, rfl, by decide⟩
theorem one_64 : One Try.prog 64 := ⟨fun _ => by kernel_rfl, by kernel_rfl⟩
section
variable {P : Program} {ops : Array Oper} {Q : Exit → Act → World → Prop} {N : Nat} {C : World → Prop} {rest : List Oper} {l : Sl} {v : Value} {d : Nat}
variable {dd : Option Tmp} {ty : TypeId} {ps : String} {af : Array Edge} {g : Option (Nat × Bool)} {x y : Operand} {t e e1 : TypeId} {z : Value} {bytes n m : Nat} {w0 : World} {os : List Ck} {c : Code}
theorem rbb_arg {us : List Value} {bss : List (List Bool)} (h : RBB w0 v us bss) : ∀ w, Hp w0 os w → RBB w v us bss := fun _ hw => h.below hw.1
/-- The class begun anew in the world that is reached. -/
theorem TC.base {D : World → Prop} (h : ∀ w1, D w1 → TC P c Q N (Hp w1 []) l) : TC P c Q N D l := fun a w hs hw => h w hw a w hs (Hp.start w)
theorem TL.base {D : World → Prop} (h : ∀ w1, D w1 → TL P ops Q N (Hp w1 []) rest l) : TL P ops Q N D rest l := fun a w hs hw => h w hw a w hs (Hp.start w)
theorem TN.base {D : World → Prop} {e : Exit} (h : ∀ w1, D w1 → TN Q e N (Hp w1 []) l) : TN Q e N D l := fun a w hs hw => h w hw a w hs (Hp.start w)
theorem Hp.nl {w : World} (h : Hp w0 os w) : Hp w0 [] w := Hp.sublist h (List.nil_sublist _)

/-! rows that are kept to be read -/
def Bag (e : TypeId) (gs : List Nat) (L : List (Value × List Value)) (w : World) : Prop := ∀ p ∈ L, Own w 0 e 1 p.1 p.2.length p.2 ∧ ∀ k, obk p.1 = some k → k ∈ gs
theorem Bag.keep {gs : List Nat} {L : List (Value × List Value)} {w w' : World} (h : Bag e gs L w) (hk : ∀ k ∈ gs, w'.heap[k]? = w.heap[k]?) : Bag e gs L w' := fun p hp =>
  ⟨(h p hp).1.keep fun k hk' => hk k ((h p hp).2 k hk'), (h p hp).2⟩
abbrev bagCk (e : TypeId) (gs : List Nat) (L : List (Value × List Value)) : Ck := .objs gs (fun q => ∃ w', gs.map (fun k => w'.heap[k]?) = q ∧ Bag e gs L w')
theorem bag_ok {B : Nat} {gs : List Nat} {L : List (Value × List Value)} {w : World} : (bagCk e gs L).ok B w ↔ (∀ k ∈ gs, B ≤ k ∧ k < w.heap.size) ∧ Bag e gs L w := by
  constructor
  · rintro ⟨h1, w', h2, h3⟩
    exact ⟨h1, h3.keep fun k hk => (List.map_inj_left.1 h2 k hk).symm⟩
  · rintro ⟨h1, h2⟩
    exact ⟨h1, w, rfl, h2⟩
theorem Hp.bag0 {w : World} (h : Hp w0 os w) : Hp w0 (bagCk e [] [] :: os) w := by
  refine ⟨h.1, fun c hc => ?_, List.pairwise_cons.2 ⟨fun c _ k hk => by simp [Ck.foot] at hk, h.2.2⟩⟩
  rcases List.mem_cons.1 hc with rfl | hc
  · exact bag_ok.2 ⟨by simp, fun p hp => by simp at hp⟩
  · exact h.2.1 c hc
/-- An owned row goes into the bag. -/
theorem Hp.bagPut {w : World} {u : Value} {gs : List Nat} {L : List (Value × List Value)} {xs : List Value} (h : Hp w0 (.row u e 1 n xs :: bagCk e gs L :: os) w) : Hp w0 (bagCk e ((obk u).toList ++ gs) ((u, xs) :: L) :: os) w := by
  obtain ⟨h1, h2, h3⟩ := h
  have hr : Own w w0.heap.size e 1 u n xs := h2 (.row u e 1 n xs) (by simp)
  obtain ⟨hb1, hb2⟩ := bag_ok.1 (h2 (bagCk e gs L) (by simp))
  obtain ⟨a1, a2⟩ := List.pairwise_cons.1 h3
  obtain ⟨a3, a4⟩ := List.pairwise_cons.1 a2
  have hn : n = xs.length := by have := hr.1; omega
  refine ⟨h1, fun c hc => ?_, List.pairwise_cons.2 ⟨fun c hc k hk hd => ?_, a4⟩⟩
  · rcases List.mem_cons.1 hc with rfl | hc
    · refine bag_ok.2 ⟨fun k hk => ?_, fun p hp => ?_⟩
      · rcases List.mem_append.1 hk with hk | hk
        · exact hr.lt k (by simpa using hk)
        · exact hb1 k hk
      · rcases List.mem_cons.1 hp with rfl | hp
        · refine ⟨by rw [← hn]; exact hr.base (Nat.zero_le _), fun k hk => List.mem_append.2 (.inl (by simpa using hk))⟩
        · exact ⟨(hb2 p hp).1, fun k hk => List.mem_append.2 (.inr ((hb2 p hp).2 k hk))⟩
    · exact h2 c (by simp [hc])
  · rcases List.mem_append.1 hk with hk | hk
    · exact a1 c (by simp [hc]) k (by simpa [Ck.foot] using hk) hd
    · exact a3 c hc k hk hd
theorem bag_rd (i : Nat) {gs : List Nat} {L : List (Value × List Value)} {u : Value} {xs : List Value} (ho : os[i]? = some (bagCk e gs L)) (hm : (u, xs) ∈ L) : ∀ w, Hp w0 os w → Rd w u 1 xs.length xs := fun w hw =>
  rd_own ((bag_ok.1 (hw.get i ho)).2 (u, xs) hm).1
/-- The rows of a table go into a bag. -/
def rowsOf (us : List Value) (xss : List (List Int)) : List (Value × List Value) := (List.range us.length).map fun i => (us.getD i undef, ints (xss.getD i []))
theorem Hp.tabBag {w : World} {us : List Value} {xss : List (List Int)} (h : Hp w0 (.tab v e1 e us xss none :: os) w) : Hp w0 (.row v e1 1 us.length us :: bagCk e (us.filterMap obk) (rowsOf us xss) :: os) w := by
  obtain ⟨h1, h2, h3⟩ := h
  obtain ⟨t1, t2, t3, t4⟩ := h2 (.tab v e1 e us xss none) (by simp)
  obtain ⟨a1, a2⟩ := List.pairwise_cons.1 h3
  have hg : ∀ k, k ∈ us.filterMap obk ↔ ∃ i, i < us.length ∧ obk (us.getD i undef) = some k := fun k => by
    rw [List.mem_filterMap]
    constructor
    · rintro ⟨u, hu, hk⟩
      obtain ⟨i, hi, rfl⟩ := List.mem_iff_getElem.1 hu
      exact ⟨i, hi, by rw [List.getD_eq_getElem?_getD, List.getElem?_eq_getElem hi]; exact hk⟩
    · rintro ⟨i, hi, hk⟩
      rw [List.getD_eq_getElem?_getD, List.getElem?_eq_getElem hi] at hk
      exact ⟨us[i], List.getElem_mem hi, hk⟩
  have hB : (bagCk e (us.filterMap obk) (rowsOf us xss)).ok w0.heap.size w := bag_ok.2 ⟨fun k hk => by
    obtain ⟨i, hi, hk⟩ := (hg k).1 hk
    exact (t3 i hi (by simp)).lt k hk, fun p hp => by
    obtain ⟨i, hi, rfl⟩ := List.mem_map.1 hp
    have hi' : i < us.length := by simpa using hi
    refine ⟨?_, fun k hk => (hg k).2 ⟨i, hi', hk⟩⟩
    have := t3 i hi' (by simp)
    unfold RowOk at this
    have e2 : (ints (xss.getD i [])).length = (xss.getD i []).length := by simp [ints]
    rw [e2]
    exact this.base (Nat.zero_le _)⟩
  have hR : (Ck.row v e1 1 us.length us).ok w0.heap.size w := by rw [t2]; exact t1
  refine ⟨h1, fun c hc => ?_, List.pairwise_cons.2 ⟨fun c hc k hk hd => ?_, List.pairwise_cons.2 ⟨fun c hc k hk hd => ?_, a2⟩⟩⟩
  · rcases List.mem_cons.1 hc with rfl | hc
    · exact hR
    · rcases List.mem_cons.1 hc with rfl | hc
      · exact hB
      · exact h2 c (by simp [hc])
  · have hk' : obk v = some k := hk
    rcases List.mem_cons.1 hc with rfl | hc
    · obtain ⟨i, hi, hki⟩ := (hg k).1 hd
      exact (t4 i hi k hki).1 hk'
    · exact a1 c hc k (.inl hk') hd
  · obtain ⟨i, hi, hki⟩ := (hg k).1 hk
    exact a1 c hc k (.inr ⟨i, hi, by simp, hki⟩) hd
/-- A slice value is appended to an owned slice of such. -/
theorem TL.appendV (i q : Nat) {u r : Value} {us : List Value} (hx : Ev l x v) (hy : Ev l y u) (ho : os[i]? = some (.row v e 1 us.length us)) (hm : os[q]? = some (.row u e 1 1 [r])) (hT : SlT P t e z 1 24)
    (hr : ∀ w, Hp w0 os w → Ln r m) (hlen : us.length + 1 ≤ 5000000000000) (hb : Nat.blt d N = true)
    (h : ∀ v', TL P ops Q N (Hp w0 (os.set i (.row v' e 1 (us ++ [r]).length (us ++ [r])))) rest ((d, v') :: l)) :
    TL P ops Q N (Hp w0 os) (⟨some d, .call { callee := .builtin .append, args := #[x, y], argTypes := #[t, t] }, ty, ps, af, none⟩ :: rest) l := fun a w hs hw => by
  obtain ⟨A, c, hrv, _⟩ := hr w hw
  refine TL.append (m := 1) (ys := [r]) i hx hy ho hT (fun w' hw' => rd_own (hw'.get q hm)) (fun p hp => ?_) (by omega) (by unfold maxLen; omega) hb (fun v' => ?_) a w hs hw
  · rw [List.mem_singleton.1 hp, hrv]; rfl
  · have := h v'
    simp only [List.length_append, List.length_cons, List.length_nil] at this
    exact this
/-- An empty slice of slices, just built. -/
theorem TL.build0 (hT : SlT P t e z 1 bytes) (hb : Nat.blt d N = true) (h : ∀ v', TL P ops Q N (Hp w0 (.row v' e 1 ([] : List Value).length [] :: os)) rest ((d, v') :: l)) :
    TL P ops Q N (Hp w0 os) (⟨some d, .buildSlice t 0 #[], ty, ps, af, none⟩ :: rest) l :=
  TL.buildSlice (parts := []) (zs := []) (vs := []) hT rfl trivial (by intro u hu; simp at hu) rfl (by simp) hb (fun v' => h v')
end
end Go.Proofs.Ytgnikdpgndmldaa
