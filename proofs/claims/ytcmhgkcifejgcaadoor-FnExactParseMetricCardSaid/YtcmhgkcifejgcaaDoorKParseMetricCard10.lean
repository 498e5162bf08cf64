/-
  Part of a proof: rules of the walk, plain functions and their laws, walks. No condition.
-/
import Derived.Test.YtcmhgkcifejgcaaDoorKParseMetricCard9
import Derived.Test.YtcmhgkcifejgcaaDoorRows
import Derived.Shelf.Vars
import Derived.LaidLaws
namespace Go.Proofs.YtcmhgkcifejgcaaDoor
set_option linter.unusedVariables false
set_option linter.unusedSimpArgs false
open Go Go.RowKit
set_option linter.unusedVariables false
theorem metH_of {P : Program} {laid : List (String × DataW Unit)} {w : World} (hf : (laid.filter fun x => x.2.handleName?.isSome) = []) (h : laidMet P laid w) : laidMetH P laid w := by
  unfold laidMetH; rw [hf]; exact h
theorem met_of {P : Program} {laid : List (String × DataW Unit)} {w : World} (hf : (laid.filter fun x => x.2.handleName?.isSome) = []) (h : laidMetH P laid w) : laidMet P laid w := by
  unfold laidMetH at h; rw [hf] at h; exact h
theorem no_handles : (Rows.fnExactParseMetricRow.laid.filter fun x => x.2.handleName?.isSome) = [] := by kernel_rfl
theorem tab_third {P : Program} {W : World} {n1 n2 name : String} {d1 d2 : DataW Unit} {k : IntKind} {zs : List Int} {rest : List (String × DataW Unit)} {g : Nat} {t e : TypeId} {n : Nat}
    (hg : P.globalNamed name = some g) (hty : (P.globals[g]?).map (·.type) = some t) (ht : P.underlying t = some (.array n e)) (he : P.underlying e = some (.int k)) (hce : P.cellsOf e = 1) (hct : P.cellsOf t = n)
    (h : laidMet P ((n1, d1) :: (n2, d2) :: (name, Lib.tabData k zs) :: rest) W) : Lib.TabIs P W name k zs := by
  obtain ⟨ps, ⟨g1, t1, cs1, f1, p1, q1, _, _, _, _, h2, _⟩, _⟩ := h
  obtain ⟨g2, t2, cs2, f2, p2, q2, _, _, _, _, h3, _⟩ := h2
  obtain ⟨g', t', cs, fuel, p, q, hg', ht', hvar, hd, _, _⟩ := h3
  obtain rfl := Option.some.inj (hg.symm.trans hg')
  obtain rfl := Option.some.inj (hty.symm.trans ht')
  unfold Lib.TabIs
  rw [hvar, ← Lib.cells_of_tab ht he hce hct hd]
/-- A variable that is listed as an error's value holds one. -/
theorem cell_err {P : Program} {W : World} {g : Nat} {t : TypeId} {ms : Array (String × TypeId)} {n : String} {nm : String} {d : DataW Unit} (hg : P.globalNamed n = some g) (hty : (P.globals[g]?).map (·.type) = some t) (hu : P.underlying t = some (.interface ms))
    {g' : Nat} {t' : TypeId} {cs : Array Value} {fuel : Nat} {p : List MemPlace} (hg' : P.globalNamed n = some g') (ht' : (P.globals[g']?).map (·.type) = some t') (hvar : W.var? P n = some cs) (hd : DataW.trod (fun _ => ()) P W 0 (fun _ => true) false fuel t' cs.toList = some (.iface nm d, p)) :
    ∃ ev, W.cell? ⟨g, 0, none⟩ = some ev ∧ (ev = .nilIface ∨ ∃ te pe, ev = .iface te pe) := by
  obtain rfl := Option.some.inj (hg.symm.trans hg')
  obtain rfl := Option.some.inj (hty.symm.trans ht')
  obtain ⟨_, u, v, hcs, _, _⟩ := iface_of_trod hu hd
  obtain rfl : cs = #[.iface u v] := by
    obtain ⟨l⟩ := cs
    simp only at hcs
    rw [hcs]
  exact ⟨.iface u v, by simpa using World.var?_cell hg hvar 0, .inr ⟨u, v, rfl⟩⟩
theorem vars_of {W : World} (hL : laidMetH Tryd.prog Rows.fnExactParseMetricRow.laid W) (hsh : W.ShapedOpen Tryd.prog) : Vars W := by
  have hM := met_of no_handles hL
  obtain ⟨ps, ⟨g1, t1, cs1, f1, p1, q1, _, _, _, _, h2, _⟩, _⟩ := hM
  obtain ⟨g2, t2, cs2, f2, p2, q2, _, _, _, _, h3, _⟩ := h2
  obtain ⟨g3, t3, cs3, f3, p3, q3, a1, a2, a3, a4, h4, _⟩ := h3
  obtain ⟨g4, t4, cs4, f4, p4, q4, _, _, _, _, h5, _⟩ := h4
  obtain ⟨g5, t5, cs5, f5, p5, q5, b1, b2, b3, b4, h6, _⟩ := h5
  obtain ⟨g6, t6, cs6, f6, p6, q6, c1, c2, c3, c4, _, _⟩ := h6
  refine ⟨?_, ?_, ?_, ?_⟩
  · exact cell_of_shapedOpen_int (g := 0) (t := 3) (zero := #[.int .i64 0]) hsh (by decide +kernel) (by kernel_rfl) rfl (by kernel_rfl) (by kernel_rfl) Tryd.underlying3
  · exact cell_err (g := 3) (t := 69) (by kernel_rfl) (by kernel_rfl) Tryd.underlying69 c1 c2 c3 c4
  · exact cell_err (g := 4) (t := 69) (by kernel_rfl) (by kernel_rfl) Tryd.underlying69 b1 b2 b3 b4
  · exact tab_third (g := 5) (t := 118) (e := 101) (by kernel_rfl) (by kernel_rfl) Tryd.underlying118 Tryd.underlying101 (by kernel_rfl) (by kernel_rfl) (met_of no_handles hL)
end Go.Proofs.YtcmhgkcifejgcaaDoor
