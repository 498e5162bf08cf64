/-
  Part of a proof: rules of the walk, plain functions and their laws, walks. No condition.
-/
import Derived.Test.YtgnikdpgndmldaaKChainsOf5
import Derived.ProofKit
import Derived.Deep.Matrix
import Derived.Lib.SmallJoins
import Derived.OpenShut
import Derived.ShutString
namespace Go.Proofs.Ytgnikdpgndmldaa
set_option linter.unusedVariables false
set_option linter.unusedSimpArgs false
open Go Go.RowKit Go.WideShapes Go.ChangeShapes

theorem post_hp {H : Type} {enc : TypeId × Value → H} {P : Program} {f : Func} {s : ChangeSpec} {apart fresh handsOn : Bool} {W W' : World} {args : Array Value} {v : Value} {ds gs : List (DataW H)} {before pa pv : List MemPlace}
    (hW : DataW.Whole enc P f.params.toList s.vars apart W args.toList ds gs before)
    (hres : ∀ (b : Nat) (sp : Nat → Bool) (hd : Bool), DataW.TrodAll enc P W' b sp hd f.resultTypes.toList (v.resultList f.resultTypes.size) (s.fn H (ds ++ gs)).results [])
    (hargs : DataW.TrodAll enc P W' 0 (fun b => decide (b < W.heap.size)) true f.params.toList args.toList (s.fn H (ds ++ gs)).args pa)
    (hvars : ∀ sp : Nat → Bool, DataW.TrodVars enc P W' sp s.vars (s.fn H (ds ++ gs)).vars pv)
    (hps : before = pa ++ pv) (hb : Below W.heap.size W W') :
    s.post enc P f apart fresh handsOn false W args v W' := by
  refine ⟨ds, gs, before, [], pa, pv, hW, hres _ _ _, hargs, hvars _, World.keptBut_mono (fun p hp => ⟨hp, ?_⟩) (hb.frame (· ∈ before)), fun h => by cases h⟩
  rw [hps, List.mem_append] at hp
  exact Or.inr hp

section
variable {H : Type} {enc : TypeId × Value → H} {P : Program} {W : World}
theorem open_ri {r : Reach} {b0 : Nat} {t e : TypeId} {v : Value} {d : DataW H} {p : List MemPlace} (ht : P.underlying t = some (.slice e)) (he : P.underlying e = some (.int .i64)) (hc : P.cellsOf e = 1)
    (hv : Value.okWide P W r b0 t v) (h : DataW.Trod enc P W 0 (fun _ => true) true t v d p) : ∃ xs, RI W v xs := by
  obtain ⟨a0, len, cap, rfl⟩ := okWide_slice ht hv
  obtain ⟨fuel, hf⟩ := h
  rcases open_ints ht he hc hf with ⟨hcs, _⟩ | ⟨a, len', cap', zs, hcs, _, hl, hm, hz, _, hcell, _⟩
  · simp only [Value.cells, List.cons.injEq, and_true] at hcs
    rw [hcs]
    exact ⟨[], ri_nil W⟩
  · simp only [Value.cells, List.cons.injEq, and_true] at hcs
    rw [hcs]
    simp only [if_true] at hz
    refine ⟨zs.take len', by simp, by simp; omega, some a, cap', ?_, by simp; omega, by simp, fun hn => ?_⟩
    · simp [hz, Nat.min_eq_left hl]
    · simp only [List.length_take] at hn
      refine ⟨a, rfl, ?_, fun j u hu => ?_⟩
      · have h0 := hcell 0 (by omega)
        have := World.block_lt_of_cell? W _ h0
        simpa [Addr.add] using this
      · simp only [ints, List.map_take, List.getElem?_take, List.getElem?_map] at hu
        split at hu
        · rename_i hj
          have hjz : j < zs.length := by omega
          rw [hcell j hjz]
          simp only [List.getElem?_eq_getElem hjz, Option.map_some, Option.some.injEq] at hu
          rw [← hu]
          simp [hjz]
        · cases hu
theorem rii_of {t e q : TypeId} {v : Value} {fuel : Nat} {x : DataW H × List MemPlace} (ht : P.underlying t = some (.slice e)) (he : P.underlying e = some (.slice q)) (hq : P.underlying q = some (.int .i64)) (hce : P.cellsOf e = 1) (hcq : P.cellsOf q = 1)
    (hf : DataW.trod enc P W 0 (fun _ => true) true fuel t [v] = some x) : ∃ us xss, RII W v us xss := by
  rcases Deep.open_int_rows ht he hq hce hcq hf with ⟨hcs, _⟩ | ⟨a, len', cap', A, L, C, Z, hcs, _, hl, hm, _, hrow⟩
  · simp only [List.cons.injEq, and_true] at hcs
    rw [hcs]
    exact ⟨[], [], rii_nil W⟩
  · simp only [List.cons.injEq, and_true] at hcs
    rw [hcs]
    refine ⟨(List.range len').map fun i => .slice (A i) (L i) (C i), (List.range len').map fun i => (Z i).take (L i), ?_, by simp, fun i hi => ?_⟩
    · refine ⟨by simp, by simp; omega, some a, cap', by simp, by simp; omega, by simp, fun hn => ?_⟩
      simp only [List.length_map, List.length_range] at hn
      refine ⟨a, rfl, ?_, fun j u hu => ?_⟩
      · have h0 := (hrow 0 (by omega)).1
        have := World.block_lt_of_cell? W _ h0
        simpa [Addr.add] using this
      · have hj : j < len' := by
          have := (List.getElem?_eq_some_iff.1 hu).1
          simpa using this
        rw [(hrow j (by omega)).1]
        simpa [hj] using hu
    · simp only [List.length_map, List.length_range] at hi
      obtain ⟨_, h2, h3, h4, _, h6, h7⟩ := hrow i (by omega)
      have e1 : ((List.range len').map fun i => Value.slice (A i) (L i) (C i)).getD i undef = .slice (A i) (L i) (C i) := by simp [hi]
      have e2 : ((List.range len').map fun i => (Z i).take (L i)).getD i [] = (Z i).take (L i) := by simp [hi]
      rw [e1, e2]
      have hlen : ((Z i).take (L i)).length = L i := by rw [List.length_take]; omega
      refine ⟨by simp, by rw [hlen]; omega, A i, C i, by rw [hlen], by rw [hlen]; exact h2, h6, fun hn => ?_⟩
      rw [hlen] at hn
      rcases hA : A i with _ | a'
      · have := h6 hA; omega
      · obtain ⟨_, hc⟩ := h7 a' hA
        refine ⟨a', rfl, ?_, fun j u hu => ?_⟩
        · have h0 := hc 0 (by omega)
          have := World.block_lt_of_cell? W _ h0
          simpa [Addr.add] using this
        · simp only [ints, List.map_take, List.getElem?_take, List.getElem?_map] at hu
          split at hu
          · rename_i hj
            have hjz : j < (Z i).length := by omega
            rw [hc j (by omega)]
            simp only [List.getElem?_eq_getElem hjz, Option.map_some, Option.some.injEq] at hu
            rw [← hu]
            simp [hjz]
          · cases hu
theorem open_rii {r : Reach} {b0 : Nat} {t e q : TypeId} {v : Value} {d : DataW H} {p : List MemPlace} (ht : P.underlying t = some (.slice e)) (he : P.underlying e = some (.slice q)) (hq : P.underlying q = some (.int .i64)) (hce : P.cellsOf e = 1) (hcq : P.cellsOf q = 1)
    (hv : Value.okWide P W r b0 t v) (h : DataW.Trod enc P W 0 (fun _ => true) true t v d p) : ∃ us xss, RII W v us xss := by
  obtain ⟨a0, len, cap, rfl⟩ := okWide_slice ht hv
  obtain ⟨fuel, hf⟩ := h
  exact rii_of ht he hq hce hcq hf
/-- A struct of one slice of rows, by value. -/
theorem open_rm {r : Reach} {b0 : Nat} {s t e q : TypeId} {f0 : Field} {v : Value} {d : DataW H} {p : List MemPlace} (hs : P.underlying s = some (.struct #[f0])) (hC : P.cellsOf s = 1) (hft : f0.type = t) (hof : f0.offset = 0) (hct : P.cellsOf t = 1)
    (ht : P.underlying t = some (.slice e)) (he : P.underlying e = some (.slice q)) (hq : P.underlying q = some (.int .i64)) (hce : P.cellsOf e = 1) (hcq : P.cellsOf q = 1)
    (hv : Value.okWide P W r b0 s v) (h : DataW.Trod enc P W 0 (fun _ => true) true s v d p) : ∃ x us xss, v = .agg #[x] ∧ RII W x us xss := by
  obtain ⟨cs, rfl, hsz⟩ := okWide_struct hs hv
  obtain ⟨l⟩ := cs
  match l, hsz.trans hC with
  | [c0], _ =>
    obtain ⟨fuel, hf⟩ := h
    obtain ⟨y0, n, _, _, h0⟩ := trod_struct1 hs hf
    subst hft
    rw [hof, hct] at h0
    obtain ⟨us, xss, hr⟩ := rii_of ht he hq hce hcq h0
    exact ⟨c0, us, xss, rfl, hr⟩
theorem carry (hl : laidOutB P = true) {t : TypeId} (hr : P.readableRec t = true) (hrow : t < P.types.size) {W' : World} {v : Value} {d : DataW H} {ps : List MemPlace}
    (h : DataW.Trod enc P W 0 (fun _ => true) true t v d ps) (hb : Below W.heap.size W W') (hlt : ∀ x ∈ ps, x.block < W.heap.size) : DataW.Trod enc P W' 0 (fun b => decide (b < W.heap.size)) true t v d ps :=
  Below.trod hl hr hrow h hb hlt
end
end Go.Proofs.Ytgnikdpgndmldaa
