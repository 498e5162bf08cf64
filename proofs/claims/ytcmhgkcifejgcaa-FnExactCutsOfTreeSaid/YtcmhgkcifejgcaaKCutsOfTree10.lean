/-
  Part of a proof: rules of the walk, plain functions and their laws, walks. No condition.
-/
import Derived.Test.YtcmhgkcifejgcaaKCutsOfTree9
import Derived.Tactics
import Derived.Tactics2
import Derived.Laws.Small
import Derived.Laws.StructEq
import Derived.Laws.Tables
namespace Go.Proofs.Ytcmhgkcifejgcaa
set_option linter.unusedVariables false
set_option linter.unusedSimpArgs false
open Go Go.RowKit
set_option linter.unusedVariables false
set_option linter.unusedSimpArgs false

abbrev rowU (e : TypeId) (v : Value) (xs : List Int) : Ck := .row v e 1 xs.length (u8s xs)
/-- A slice of bytes, the numbers' bounds aside. -/
def RU (w : World) (v : Value) (xs : List Int) : Prop := Rd w v 1 xs.length (u8s xs)
theorem oc_u8s (xs : List Int) : ∀ u ∈ u8s xs, u.oneCell' = true := by intro u hu; obtain ⟨q, _, rfl⟩ := List.mem_map.1 hu; rfl
theorem flat_u8s (xs : List Int) : (u8s xs).flatMap (·.cells.toList) = u8s xs := by
  induction xs with
  | nil => rfl
  | cons x r ih => simp only [u8s, List.map_cons, List.flatMap_cons] at *; rw [ih]; rfl
theorem ru_resl {w : World} {v : Value} {xs : List Int} (h : RU w v xs) {lo hi : Nat} (h1 : lo ≤ hi) (h2 : hi ≤ xs.length) : RU w (resl v lo hi 1) ((xs.take hi).drop lo) := by
  have := rd_resl h h1 h2
  simp only [Nat.mul_one] at this
  unfold RU
  have hl : ((xs.take hi).drop lo).length = hi - lo := by rw [List.length_drop, List.length_take, Nat.min_eq_left h2]
  rw [hl]
  have : u8s ((xs.take hi).drop lo) = ((u8s xs).take hi).drop lo := by simp [u8s, List.map_drop, List.map_take]
  rw [this]
  assumption
theorem ru_row {w0 : World} {os : List Ck} {v : Value} (i : Nat) {e : TypeId} {xs : List Int} (hi : os[i]? = some (rowU e v xs)) : ∀ w, Hp w0 os w → RU w v xs := fun _ hw => rd_own (hw.get i hi)
theorem ru_arg {w0 : World} {os : List Ck} {v : Value} {xs : List Int} (h : RB w0 v xs) : ∀ w, Hp w0 os w → RU w v xs := fun _ hw => Rd.below h.1 hw.1
section
variable {P : Program} {ops : Array Oper} {Q : Exit → Act → World → Prop} {N : Nat} {C : World → Prop} {rest : List Oper} {l : Sl} {v : Value} {d : Nat}
variable {dd : Option Tmp} {ty : TypeId} {ps' : String} {af : Array Edge} {g : Option (Nat × Bool)} {x y : Operand} {t t' e : TypeId} {z : Value} {bytes n k c m : Nat} {w0 : World} {os : List Ck} {ps : List (Int × Int)} {a b : Int}
theorem TL.buildB {parts : List (Nat × Operand)} {zs : List Operand} {qs : List Int} (hT : SlT P t e z 1 bytes) (hz : parts = List.zip (List.range' 0 (u8s qs).length) zs) (hv : Evs l zs (u8s qs)) (hn : n = qs.length) (hsm : n ≤ 16777216) (hb : Nat.blt d N = true)
    (h : ∀ v', TL P ops Q N (Hp w0 (rowU e v' qs :: os)) rest ((d, v') :: l)) :
    TL P ops Q N (Hp w0 os) (⟨some d, .buildSlice t n parts.toArray, ty, ps', af, none⟩ :: rest) l :=
  TL.buildSlice hT hz hv (by intro u hu; obtain ⟨q, _, rfl⟩ := List.mem_map.1 hu; rfl) (by simp [hn, u8s]) (by omega) hb (fun v' => by
    rw [flat_u8s, hn]; exact h v')
theorem TL.appendB (i : Nat) {u : Value} {zs qs : List Int} (hx : Ev l x v) (hy : Ev l y u) (ho : os[i]? = some (rowU e v zs)) (hT : SlT P t e z 1 1) (hr : ∀ w, Hp w0 os w → RU w u qs)
    (hm : zs.length + qs.length ≤ 8796093022208) (hb : Nat.blt d N = true) (h : ∀ v', TL P ops Q N (Hp w0 (os.set i (rowU e v' (zs ++ qs)))) rest ((d, v') :: l)) :
    TL P ops Q N (Hp w0 os) (⟨some d, .call { callee := .builtin .append, args := #[x, y], argTypes := #[t, t] }, ty, ps', af, none⟩ :: rest) l :=
  TL.append i hx hy ho hT hr (oc_u8s _) (by omega) (by simp [maxLen]; omega) hb fun v' => by
    have := h v'
    simp only [rowU, List.length_append, u8s, List.map_append] at this
    exact this
theorem y_conv_u8 {k : IntKind} {p : Int} {d1 : TypeDesc} (hx : Ev l x (.int k p)) (hs1 : P.underlying t = some d1) (hd : P.underlying t' = some (.int .u8)) (h : 0 ≤ p ∧ p ≤ 255) :
    Ys P C N l ⟨dd, .convert t t' x, ty, ps', af, g⟩ (.int .u8 p) := yl_of fun a w hs _ => by
  have hk : P.intKind t' = .u8 := by simp [Program.intKind, hd]
  have h4 := run_convert_int (P := P) w t t' k p (by rw [hs1]; rfl) (by rw [hk]; exact hd)
  have h5 : IntKind.u8.wrap p = p := by simp [IntKind.wrap, IntKind.bits, IntKind.signed, go_sem]; omega
  rw [hk, h5] at h4
  simp only [execOp, hx N a hs, Sem.run_bind, h4, Result.andThen_ok, Sem.run_pure]
theorem equal_pr (hT : ArT P t e 2) (he : P.underlying e = some (.int .i64)) (ho : One P e) (w : World) (a b c d : Int) : (Op.equalIn 10000 t (.agg #[.int .i64 a, .int .i64 b]) (.agg #[.int .i64 c, .int .i64 d])).run P w = .ok (a == c && b == d) w := by
  have a3 := ho.1
  have z3 := hT.2.1
  rw [show (10000 : Nat) = 9999 + 1 from rfl, Op.equalIn]
  simp only [Sem.run_bind, run_underlying hT.1, Result.andThen_ok]
  simp only [Std.Legacy.Range.forIn_eq_forIn_range', Std.Legacy.Range.size, Nat.sub_zero, Nat.add_sub_cancel, Nat.div_one, List.range'_succ, List.range'_zero, List.forIn_cons, List.forIn_nil]
  go_simp
  by_cases h1 : a = c <;> by_cases h2 : b = d <;> simp [h1, h2]
theorem y_neqP {p q : Int × Int} (hx : Ev l x (prV p)) (hy : Ev l y (prV q)) (hT : ArT P t e 2) (he : P.underlying e = some (.int .i64)) (ho : One P e) (hm : P.eqGuardType P.depth t = false) : Ys P C N l ⟨dd, .binOp .neq t x y t', ty, ps', af, g⟩ (.bool (!(p.1 == q.1 && p.2 == q.2))) := yl_of fun a w hs _ => by
  simp only [execOp, hx N a hs, hy N a hs]
  have := equal_pr hT he ho w p.1 p.2 q.1 q.2
  have h2 := run_eqGuard_agg (P := P) w .neq t x y #[int p.1, int p.2] #[int q.1, int q.2] hm
  simp only [Sem.run_bind, prV, h2, Result.andThen_ok]
  simp [go_sem, Op.equal]
  rw [show (Sem.run P (Op.equalIn 10000 t (Value.agg #[int p.fst, int p.snd]) (Value.agg #[int q.fst, int q.snd])) w) = _ from this]
  simp
/-- One of two. -/
def pk (a b : Int) (c : Nat) : Int := if c = 0 then a else b
/-- An array's element at a place that is computed. -/
theorem y_ldv (i : Nat) {gb : Nat} (hx : Ev l x (.pointer (some ⟨gb, 0 + c, none⟩))) (hT : One P t) (ho : os[i]? = some (.blk gb e [.int .i64 a, .int .i64 b])) (hc : c < 2) : Ys P (Hp w0 os) N l ⟨dd, .load t x, ty, ps', af, g⟩ (.int .i64 (pk a b c)) := by
  refine y_ldb i hx hT ho ?_
  match c, hc with
  | 0, _ => rfl
  | 1, _ => rfl
/-- A part, computed, of a pair in a slice. -/
theorem y_ldpk (hx : Ev l x (pt v (k * 2 + c) 1)) (hT : One P t) (hr : ∀ w, C w → RP w v ps) (hlt : k < ps.length) (hc : c < 2) : Ys P C N l ⟨dd, .load t x, ty, ps', af, g⟩ (.int .i64 (pk (ps.getD k (0, 0)).1 (ps.getD k (0, 0)).2 c)) := by
  match c, hc with
  | 0, _ => exact y_ldp1 hx hT hr hlt
  | 1, _ => exact y_ldp2 hx hT hr hlt
def pset (p : Int × Int) (c : Nat) (u : Int) : Int × Int := if c = 0 then (u, p.2) else (p.1, u)
theorem TL.storePk (i : Nat) {u : Int} (hx : Ev l x (pt v (k * 2 + c) 1)) (hy : Ev l y (.int .i64 u)) (hT : One P t) (ho : os[i]? = some (rowP e v ps)) (hlt : k < ps.length) (hc : c < 2)
    (h : TL P ops Q N (Hp w0 (os.set i (rowP e v (ps.set k (pset (ps.getD k (0, 0)) c u))))) rest l) : TL P ops Q N (Hp w0 os) (⟨none, .store t x y, ty, ps', af, none⟩ :: rest) l := by
  match c, hc with
  | 0, _ => exact TL.storeP1 i hx hy hT ho hlt h
  | 1, _ => exact TL.storeP2 i hx hy hT ho hlt h
end
theorem slT_37 : SlT Try.prog 37 85 (.agg #[.int .i64 0, .int .i64 0]) 2 16 := ⟨Try.underlying37, by kernel_rfl, rfl, by decide⟩
theorem arT_85 : ArT Try.prog 85 3 2 := ⟨Try.underlying85, fun _ => by kernel_rfl, by kernel_rfl⟩
theorem agg_85 : AggT Try.prog 85 2 := arT_85.agg
theorem bd_85_a (a b : Int) (w : World) : (Instr.build 85 #[(0, .int .i64 a), (1, .int .i64 b)]).run Try.prog w = .ok (.agg #[.int .i64 a, .int .i64 b]) w := by kernel_rfl
theorem eqg_85 : Try.prog.eqGuardType Try.prog.depth 85 = false := by kernel_rfl
end Go.Proofs.Ytcmhgkcifejgcaa
namespace Go.Proofs.Ytcmhgkcifejgcaa
set_option linter.unusedVariables false
set_option linter.unusedSimpArgs false
open Go Go.RowKit
set_option linter.unusedVariables false
theorem AggAt.cell {w : World} {b : Nat} {e : TypeId} {u : Value} (h : AggAt w b e u) : CellAt w b u := by
  refine ⟨?_, h.1⟩
  rw [cell_of_row w b 0 #[u] e (0, 0) h.2]
  rfl
/-- A pair of points of n. -/
structure Dm (n : Int) (p : Int × Int) : Prop where
  p : (0 ≤ p.1 ∧ p.1 < n) ∧ 0 ≤ p.2 ∧ p.2 < n
def DmA (n : Int) (l : List (Int × Int)) : Prop := ∀ i : Nat, Dm n (l.getD i (0, 0))
theorem DmA.set {n : Int} {l : List (Int × Int)} {k : Nat} {p : Int × Int} (h : DmA n l) (hp : Dm n p) : DmA n (l.set k p) := fun i => by
  have h2 := h i
  simp only [List.getD_eq_getElem?_getD, List.getElem?_set] at *
  by_cases e : k = i
  · rw [if_pos e]
    split
    · exact hp
    · have := h i
      rw [List.getD_eq_getElem?_getD, List.getElem?_eq_none (by omega)] at this
      exact this
  · rw [if_neg e]; exact h2
end Go.Proofs.Ytcmhgkcifejgcaa
namespace Go.Proofs.Ytcmhgkcifejgcaa
set_option linter.unusedVariables false
set_option linter.unusedSimpArgs false
open Go Go.RowKit
set_option linter.unusedVariables false

def F_impl_Metric_spanningTree_1 (a : Int × Int) (b : Int × Int) (m : List (List Int)) : Int := ((m.getD ((a.1).toNat) []).getD ((a.2).toNat) 0) - ((m.getD ((b.1).toNat) []).getD ((b.2).toNat) 0)

def F_slices_insertionSortCmpFunc_2_int_L2 (a : Int) (cmp : Int × Int → Int × Int → Int) : Nat → Int × List (Int × Int) → Ctl (Int × List (Int × Int)) (List (Int × Int))
  | 0, s => .next s
  | mf2 + 1, (j2, data2) => (bif ((decide (a < j2)) && (decide ((cmp (data2.getD ((j2).toNat) (0, 0)) (data2.getD ((j2 - 1).toNat) (0, 0))) < 0))) then F_slices_insertionSortCmpFunc_2_int_L2 a cmp mf2 ((j2 - 1), ((data2.set ((j2).toNat) ((data2.getD ((j2 - 1).toNat) (0, 0)).1, (data2.getD ((j2 - 1).toNat) (0, 0)).2)).set ((j2 - 1).toNat) ((data2.getD ((j2).toNat) (0, 0)).1, (data2.getD ((j2).toNat) (0, 0)).2))) else (.next (j2, data2)))
theorem F_slices_insertionSortCmpFunc_2_int_L2_s (a : Int) (cmp : Int × Int → Int × Int → Int) (j2 : Int) (data2 : List (Int × Int)) (mf2 : Nat) : F_slices_insertionSortCmpFunc_2_int_L2 a cmp (mf2 + 1) (j2, data2) = (bif ((decide (a < j2)) && (decide ((cmp (data2.getD ((j2).toNat) (0, 0)) (data2.getD ((j2 - 1).toNat) (0, 0))) < 0))) then F_slices_insertionSortCmpFunc_2_int_L2 a cmp mf2 ((j2 - 1), ((data2.set ((j2).toNat) ((data2.getD ((j2 - 1).toNat) (0, 0)).1, (data2.getD ((j2 - 1).toNat) (0, 0)).2)).set ((j2 - 1).toNat) ((data2.getD ((j2).toNat) (0, 0)).1, (data2.getD ((j2).toNat) (0, 0)).2))) else (.next (j2, data2))) := rfl
def F_slices_insertionSortCmpFunc_2_int_L1 (a : Int) (b : Int) (cmp : Int × Int → Int × Int → Int) : Nat → Int × List (Int × Int) → Ctl (Int × List (Int × Int)) (List (Int × Int))
  | 0, s => .next s
  | mf1 + 1, (i1, data1) => (bif decide (i1 < b) then ((F_slices_insertionSortCmpFunc_2_int_L2 a cmp (((i1 - a).toNat) + 1) (i1, data1)).elim (fun (_, data2) => F_slices_insertionSortCmpFunc_2_int_L1 a b cmp mf1 ((i1 + 1), data2)) (fun r => .ret r)) else (.next (i1, data1)))
theorem F_slices_insertionSortCmpFunc_2_int_L1_s (a : Int) (b : Int) (cmp : Int × Int → Int × Int → Int) (i1 : Int) (data1 : List (Int × Int)) (mf1 : Nat) : F_slices_insertionSortCmpFunc_2_int_L1 a b cmp (mf1 + 1) (i1, data1) = (bif decide (i1 < b) then ((F_slices_insertionSortCmpFunc_2_int_L2 a cmp (((i1 - a).toNat) + 1) (i1, data1)).elim (fun (_, data2) => F_slices_insertionSortCmpFunc_2_int_L1 a b cmp mf1 ((i1 + 1), data2)) (fun r => .ret r)) else (.next (i1, data1))) := rfl
def F_slices_insertionSortCmpFunc_2_int (data : List (Int × Int)) (a : Int) (b : Int) (gn : Int) (cmp : Int × Int → Int × Int → Int) : List (Int × Int) := ((F_slices_insertionSortCmpFunc_2_int_L1 a b cmp (((b - (a + 1)).toNat) + 1) ((a + 1), data)).elim (fun (_, data1) => data1) (fun r => r))

def F_slices_stableCmpFunc_2_int_L1  : Nat → Nat × Nat → Ctl (Nat × Nat) (List (Int × Int))
  | 0, s => .next s
  | mf1 + 1, (a1, b1) => (.next (a1, b1))
theorem F_slices_stableCmpFunc_2_int_L1_s (a1 : Nat) (b1 : Nat) (mf1 : Nat) : F_slices_stableCmpFunc_2_int_L1  (mf1 + 1) (a1, b1) = (.next (a1, b1)) := rfl
def F_slices_stableCmpFunc_2_int_L2  : Nat → Nat → Ctl (Nat) (List (Int × Int))
  | 0, s => .next s
  | mf2 + 1, blockSize2 => (.next blockSize2)
theorem F_slices_stableCmpFunc_2_int_L2_s (blockSize2 : Nat) (mf2 : Nat) : F_slices_stableCmpFunc_2_int_L2  (mf2 + 1) blockSize2 = (.next blockSize2) := rfl
def F_slices_stableCmpFunc_2_int (data : List (Int × Int)) (n : Int) (gn : Int) (cmp : Int × Int → Int × Int → Int) : List (Int × Int) := ((F_slices_stableCmpFunc_2_int_L1  ((0) + 1) (0, 20)).elim (fun (a1, _) => ((F_slices_stableCmpFunc_2_int_L2  ((0) + 1) 20).elim (fun _ => (F_slices_insertionSortCmpFunc_2_int data (a1 : Int) n gn cmp)) (fun r => r))) (fun r => r))

def F_slices_SortStableFunc_S_2_int_2_int (x : List (Int × Int)) (gn : Int) (cmp : Int × Int → Int × Int → Int) : List (Int × Int) := (F_slices_stableCmpFunc_2_int x (x.length : Int) gn cmp)

def F_spec_l6Edges_L3 (m : List (List Int)) (d1 : Nat) (x2 : Nat) : Nat → List (Int × Int) × Nat → Ctl (List (Int × Int) × Nat) (List (Int × Int))
  | 0, s => .next s
  | mf3 + 1, (out3, y3) => (bif decide ((y3 : Int) < (m.length : Int)) then (bif decide (((m.getD x2 []).getD y3 0) = (d1 : Int)) then F_spec_l6Edges_L3 m d1 x2 mf3 ((out3 ++ ([((x2 : Int), (y3 : Int))])), (y3 + 1)) else F_spec_l6Edges_L3 m d1 x2 mf3 (out3, (y3 + 1))) else (.next (out3, y3)))
theorem F_spec_l6Edges_L3_s (m : List (List Int)) (d1 : Nat) (x2 : Nat) (out3 : List (Int × Int)) (y3 : Nat) (mf3 : Nat) : F_spec_l6Edges_L3 m d1 x2 (mf3 + 1) (out3, y3) = (bif decide ((y3 : Int) < (m.length : Int)) then (bif decide (((m.getD x2 []).getD y3 0) = (d1 : Int)) then F_spec_l6Edges_L3 m d1 x2 mf3 ((out3 ++ ([((x2 : Int), (y3 : Int))])), (y3 + 1)) else F_spec_l6Edges_L3 m d1 x2 mf3 (out3, (y3 + 1))) else (.next (out3, y3))) := rfl
def F_spec_l6Edges_L2 (m : List (List Int)) (d1 : Nat) : Nat → List (Int × Int) × Nat → Ctl (List (Int × Int) × Nat) (List (Int × Int))
  | 0, s => .next s
  | mf2 + 1, (out2, x2) => (bif decide ((x2 : Int) < (m.length : Int)) then ((F_spec_l6Edges_L3 m d1 x2 ((m.length - (x2 + 1)) + 1) (out2, (x2 + 1))).elim (fun (out3, _) => F_spec_l6Edges_L2 m d1 mf2 (out3, (x2 + 1))) (fun r => .ret r)) else (.next (out2, x2)))
theorem F_spec_l6Edges_L2_s (m : List (List Int)) (d1 : Nat) (out2 : List (Int × Int)) (x2 : Nat) (mf2 : Nat) : F_spec_l6Edges_L2 m d1 (mf2 + 1) (out2, x2) = (bif decide ((x2 : Int) < (m.length : Int)) then ((F_spec_l6Edges_L3 m d1 x2 ((m.length - (x2 + 1)) + 1) (out2, (x2 + 1))).elim (fun (out3, _) => F_spec_l6Edges_L2 m d1 mf2 (out3, (x2 + 1))) (fun r => .ret r)) else (.next (out2, x2))) := rfl
def F_spec_l6Edges_L1 (m : List (List Int)) : Nat → List (Int × Int) × Nat → Ctl (List (Int × Int) × Nat) (List (Int × Int))
  | 0, s => .next s
  | mf1 + 1, (out1, d1) => (bif decide ((d1 : Int) ≤ 99) then ((F_spec_l6Edges_L2 m d1 ((m.length - 0) + 1) (out1, 0)).elim (fun (out2, _) => F_spec_l6Edges_L1 m mf1 (out2, (d1 + 1))) (fun r => .ret r)) else (.next (out1, d1)))
theorem F_spec_l6Edges_L1_s (m : List (List Int)) (out1 : List (Int × Int)) (d1 : Nat) (mf1 : Nat) : F_spec_l6Edges_L1 m (mf1 + 1) (out1, d1) = (bif decide ((d1 : Int) ≤ 99) then ((F_spec_l6Edges_L2 m d1 ((m.length - 0) + 1) (out1, 0)).elim (fun (out2, _) => F_spec_l6Edges_L1 m mf1 (out2, (d1 + 1))) (fun r => .ret r)) else (.next (out1, d1))) := rfl
def F_spec_l6Edges (m : List (List Int)) : List (Int × Int) := ((F_spec_l6Edges_L1 m ((100 - 1) + 1) (([] : List (Int × Int)), 1)).elim (fun (out1, _) => out1) (fun r => r))


end Go.Proofs.Ytcmhgkcifejgcaa
namespace Go.Proofs.Ytcmhgkcifejgcaa
set_option linter.unusedVariables false
set_option linter.unusedSimpArgs false
open Go Go.RowKit
set_option linter.unusedVariables false
set_option linter.unusedSimpArgs false
theorem st_len : ∀ (n : Nat) (b : List Int), b.Nodup → (∀ v ∈ b, 0 ≤ v ∧ v < n) → b.length ≤ n
  | 0, b, _, h => by
    cases b with
    | nil => simp
    | cons v t => have := h v (by simp); omega
  | n + 1, b, hn, h => by
    by_cases hm : (n : Int) ∈ b
    · have h1 := st_len n (b.erase (n : Int)) (hn.erase _) (fun v hv => by
        have h2 := (hn.mem_erase_iff).1 hv
        have h3 := h v h2.2
        have h4 := h2.1
        omega)
      rw [List.length_erase_of_mem hm] at h1
      omega
    · have := st_len n b hn (fun v hv => by
        have h3 := h v hv
        have h4 : v ≠ n := fun e => hm (e ▸ hv)
        omega)
      omega
/-- Different points. -/
structure Dn (l : List Int) : Prop where
  nd : l.Nodup
  rg : ∀ x ∈ l, 0 ≤ x ∧ x < 6
theorem Dn.len {l : List Int} (h : Dn l) : l.length ≤ 6 := st_len 6 l h.nd h.rg
theorem Dn.one {x : Int} (h : 0 ≤ x ∧ x < 6) : Dn [x] := ⟨by simp, by simpa using h⟩
theorem Dn.app {l : List Int} {x : Int} (h : Dn l) (hx : 0 ≤ x ∧ x < 6) (hn : x ∉ l) : Dn (l ++ [x]) := by
  refine ⟨?_, fun y hy => ?_⟩
  · rw [List.nodup_append]
    refine ⟨h.nd, by simp, fun a ha b hb => ?_⟩
    rw [List.mem_singleton.1 hb]
    exact fun e => hn (e ▸ ha)
  · rcases List.mem_append.1 hy with hy | hy
    · exact h.rg y hy
    · rw [List.mem_singleton.1 hy]; exact hx
theorem st_notmem {l : List Int} {x : Int} (h : F_spec_l1Has l x = false) : x ∉ l := fun hm => by
  obtain ⟨i, hi, e⟩ := List.getElem_of_mem hm
  exact l1Has_f h i hi (by rw [getD_lt _ _ _ hi, e])
theorem st_nm {l : List Int} {x : Int} (h : ∀ i, i < l.length → l.getD i 0 ≠ x) : x ∉ l := fun hm => by
  obtain ⟨i, hi, e⟩ := List.getElem_of_mem hm
  exact h i hi (by rw [getD_lt _ _ _ hi, e])
theorem not_mem_of {l : List Int} {x : Int} (h : F_slices_Contains_Sint_int l x = false) : x ∉ l := st_notmem (by rw [← contains_eq]; exact h)
theorem pk_rng {p : Int × Int} (h : (0 ≤ p.1 ∧ p.1 < 6) ∧ 0 ≤ p.2 ∧ p.2 < 6) {c : Nat} : 0 ≤ pk p.1 p.2 c ∧ pk p.1 p.2 c < 6 := by
  unfold pk
  split
  · exact h.1
  · exact h.2
end Go.Proofs.Ytcmhgkcifejgcaa
