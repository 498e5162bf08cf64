/-
  A return of a struct that lies in a cell and of two values more. No condition.
-/
import Derived.Test.YtfhhfhiooehlcaaCur
namespace Go.Proofs.Ytfhhfhiooehlcaa
open Go Go.RowKit
variable {P : Program} {Q : Exit → Act → World → Prop} {N : Nat} {l : List (Nat × Value)} {w0 : World} {os : List Ck}
theorem TN.retCTT {fn : Func} {R : Ending → World → Prop} {e0 : Exit} {t e : TypeId} (i : Nat) {s u z b : Nat} {v' v'' : Value} {cs : List Value} (he : e0 = .ret ∨ e0 = .normal) (hr : fn.results = #[.cell s t, .tmp u, .tmp z]) (hx : Ev l (.tmp s) (.pointer (some ⟨b, 0, none⟩))) (hy : Ev l (.tmp u) v') (hz : Ev l (.tmp z) v'') (hT : AggT P t cs.length) (ho : os[i]? = some (.blk b e cs))
    (h : ∀ w, Hp w0 os w → R (.returned (.tuple #[.agg cs.toArray, v', v''])) w) : TN (bodyPost P fn R) e0 N (Hp w0 os) l := fun a w hs hw => by
  have hl := hT.load (hw.get i ho).2
  have h4 := hx N a hs
  have h5 := hy N a hs
  have h6 := hz N a hs
  simp only [Act.eval, Array.getD_eq_getD_getElem?] at h4 h5 h6
  have : (results fn a.tmps).run P w = .ok (.tuple #[.agg cs.toArray, v', v'']) w := by simp [results, hr, h4, h5, h6, asAddr, hl]
  rcases he with rfl | rfl <;> exact ⟨hs.defers, _, this, h w hw⟩
end Go.Proofs.Ytfhhfhiooehlcaa
