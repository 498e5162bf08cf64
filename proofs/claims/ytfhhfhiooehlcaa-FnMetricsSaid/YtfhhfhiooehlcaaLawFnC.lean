/-
  Plain: the law of double coverage's steps holds for all codes. No condition.
-/
import Derived.Test.YtfhhfhiooehlcaaDefN
import Derived.Test.YtfhhfhiooehlcaaLawDbl
namespace Go.Proofs.Ytfhhfhiooehlcaa

theorem rInts_L1 (a : List Int) : ∀ (fuel i : Nat), ∃ i', F_laws_rInts_L1 a a fuel i = .next i' := by
  intro fuel
  induction fuel with
  | zero => intro i; exact ⟨i, rfl⟩
  | succ mf ih =>
    intro i
    rw [F_laws_rInts_L1_s]
    cases decide ((i : Int) < (a.length : Int)) with
    | true => rw [cond_true, decide_eq_true rfl, Bool.not_true, cond_false]; exact ih (i + 1)
    | false => exact ⟨i, rfl⟩
theorem rInts_refl (a : List Int) : F_laws_rInts a a = true := by
  unfold F_laws_rInts
  rw [decide_eq_true rfl, Bool.not_true, cond_false]
  obtain ⟨i', h⟩ := rInts_L1 a (a.length - 0 + 1) 0
  rw [h]; rfl
theorem rHas_iff (l : List Int) (n : Int) : F_laws_rHas l n = true ↔ ∃ i, i < l.length ∧ l.getD i 0 = n := by
  unfold F_laws_rHas
  rcases scan (F_laws_rHas_L1 l n) l.length (fun i => decide (l.getD i 0 = n)) (fun _ => true) (fun m i => F_laws_rHas_L1_s l n i m) (l.length - 0 + 1) 0 (by omega) with ⟨h1, h2⟩ | ⟨j, _, h2, h3, h4, _⟩
  · rw [h1]
    simp only [Ctl.elim]
    constructor
    · intro h; simp at h
    · rintro ⟨i, hi, hf⟩; have := h2 i (by omega) hi; rw [decide_eq_false_iff_not] at this; exact absurd hf this
  · rw [h3]
    simp only [Ctl.elim, true_iff]
    exact ⟨j, h2, by simpa using h4⟩
theorem pot_of {a b : List Int} (ha : Row a) (hb : Row b) (hl : a.length = b.length) : F_impl_CoverPotential a b = (pot a b, true) := by
  rw [potential_eq]
  unfold F_spec_CoverPotential pot
  rw [l6Row_eq, l6Row_eq, (isRow_iff a).2 ha, (isRow_iff b).2 hb, decide_eq_true (show (a.length : Int) = (b.length : Int) by omega), apart_eq]
  rfl
theorem dist_of {a b : List Int} (ha : Row a) (hb : Row b) (hl : a.length = b.length) : F_impl_RowDistance a b = (F_impl_rowDistance a b, true) := by
  unfold F_impl_RowDistance
  rw [(areRows_iff a b).2 ⟨ha, hb, hl⟩]; rfl
theorem step_of {a : List Int} (ha : Row a) {r : Int} (h0 : 0 ≤ r) (h9 : r ≤ 99) : F_impl_CoverStep a r = ((F_spec_l6Cover a r).1, (F_spec_l6Cover a r).2, true) := by
  unfold F_impl_CoverStep
  rw [(isRow_iff a).2 ha, decide_eq_true h0, decide_eq_true h9, cover_moved ha h0 h9, (cover_both ha h0 h9).1]
  rfl
theorem pot_rows {a b : List Int} (h : (F_impl_CoverPotential a b).2 = true) : Row a ∧ Row b ∧ a.length = b.length := by
  unfold F_impl_CoverPotential at h
  cases hb : F_impl_areRows a b with
  | true => exact areRows_t hb
  | false => rw [hb, Bool.not_false, cond_true] at h; cases h
theorem dist_bd {a b : List Int} (ha : Row a) (hb : Row b) : 0 ≤ F_impl_rowDistance a b ∧ F_impl_rowDistance a b ≤ 297 := by rw [apart_eq]; exact apart_le ha hb
theorem pot_bd {a b : List Int} (ha : Row a) (hb : Row b) : -2000 ≤ pot a b ∧ pot a b ≤ 2000 := by
  have h1 := dist_bd ha hb
  have h2 := spread_le ha
  unfold pot
  rcases len_cases ha with e | e | e <;> rw [e] <;> omega
/-- All that is asked at one request. -/
theorem dc_all {s o : List Int} (hok : (F_impl_CoverPotential s o).2 = true) {i : Nat} (hi : i < o.length) :
    (F_impl_CoverStep s (o.getD i 0)).2.2 = true ∧ (0 ≤ (F_impl_CoverStep s (o.getD i 0)).2.1 ∧ (F_impl_CoverStep s (o.getD i 0)).2.1 ≤ 297) ∧ (F_impl_CoverPotential (F_impl_CoverStep s (o.getD i 0)).1 o).2 = true ∧
    (-2000 ≤ (F_impl_CoverPotential (F_impl_CoverStep s (o.getD i 0)).1 o).1 ∧ (F_impl_CoverPotential (F_impl_CoverStep s (o.getD i 0)).1 o).1 ≤ 2000) ∧ (F_impl_RowDistance s (F_impl_CoverStep s (o.getD i 0)).1).2 = true ∧
    F_laws_rHas (F_impl_CoverStep s (o.getD i 0)).1 (o.getD i 0) = true ∧ (F_impl_CoverStep s (o.getD i 0)).2.1 + (F_impl_CoverPotential (F_impl_CoverStep s (o.getD i 0)).1 o).1 ≤ (F_impl_CoverPotential s o).1 ∧
    (F_impl_RowDistance s (F_impl_CoverStep s (o.getD i 0)).1).1 = (F_impl_CoverStep s (o.getD i 0)).2.1 ∧ (F_impl_CoverPotential s (F_impl_CoverStep s (o.getD i 0)).1).2 = true ∧ (F_impl_RowDistance o (F_impl_CoverStep s (o.getD i 0)).1).2 = true ∧
    (-2000 ≤ (F_impl_CoverPotential s o).1 ∧ (F_impl_CoverPotential s o).1 ≤ 2000) ∧ (0 ≤ (s.length : Int) * (F_impl_RowDistance o (F_impl_CoverStep s (o.getD i 0)).1).1 ∧ (s.length : Int) * (F_impl_RowDistance o (F_impl_CoverStep s (o.getD i 0)).1).1 ≤ 900) ∧
    (F_impl_CoverPotential s (F_impl_CoverStep s (o.getD i 0)).1).1 ≤ (F_impl_CoverPotential s o).1 + (s.length : Int) * (F_impl_RowDistance o (F_impl_CoverStep s (o.getD i 0)).1).1 := by
  obtain ⟨hs, ho, hl⟩ := pot_rows hok
  have hrb := ho.2.1 i hi
  have hst := step_of hs hrb.1 hrb.2
  have hn := covered_row s (o.getD i 0) hs hrb.1 hrb.2
  have hm := cover_moved hs hrb.1 hrb.2
  rw [(cover_both hs hrb.1 hrb.2).1] at hn hm
  have hd := dc_pot hs ho hl ⟨i, hi, rfl⟩
  rw [hst]
  dsimp only
  generalize F_spec_l6Cover s (o.getD i 0) = q at *
  have hdb := dist_bd hs hn.1
  have hdo := dist_bd ho hn.1
  have ht := pot_tri hs hl hn.2
  have hp1 := pot_bd hn.1 ho
  have hp2 := pot_bd hs ho
  rw [pot_of hn.1 ho (by omega), dist_of hs hn.1 hn.2, pot_of hs hn.1 hn.2, pot_of hs ho hl, dist_of ho hn.1 (by omega)]
  dsimp only
  have hlen : 0 ≤ (s.length : Int) * F_impl_rowDistance o q.1 ∧ (s.length : Int) * F_impl_rowDistance o q.1 ≤ 900 := by
    rcases len_cases hs with e | e | e <;> rw [e] <;> omega
  exact ⟨rfl, by omega, rfl, hp1, rfl, (rHas_iff _ _).2 hd.2, hd.1, hm, rfl, rfl, hp2, hlen, ht⟩
theorem law_L1 (code : List Int) (hok : (F_impl_CoverPotential (F_spec_DrawCoverPotential code).1 (F_spec_DrawCoverPotential code).2).2 = true) : ∀ (fuel i : Nat), (F_laws_FnCoverStep_L1 code fuel i).elim (fun _ => true) (fun r => r) = true := by
  intro fuel
  induction fuel with
  | zero => intro i; rfl
  | succ mf ih =>
    intro i
    rw [F_laws_FnCoverStep_L1_s]
    generalize F_spec_DrawCoverPotential code = d at hok ⊢
    by_cases hi : (i : Int) < (d.2.length : Int)
    · obtain ⟨h1, h2, h3, h4, h5, h6, h7, h8, h9, h10, h11, h12, h13⟩ := dc_all hok (i := i) (by omega)
      rw [decide_eq_true hi, cond_true, ← coverStep_eq, h1, h3, h5, h6, h9, h10, rInts_refl, decide_eq_true rfl, decide_eq_true h8, decide_eq_false (by omega), decide_eq_false (by omega)]
      simp only [bne_self_eq_false, Bool.not_true, Bool.or_self, cond_false]
      exact ih (i + 1)
    · rw [decide_eq_false hi, cond_false]; rfl
theorem law_fCoverStep (code : List Int) : F_laws_FnCoverStep code = true := by
  unfold F_laws_FnCoverStep
  cases F_laws_rBig code with
  | true => rfl
  | false =>
    rw [cond_false, ← potential_eq, decide_eq_true rfl]
    simp only [bne_self_eq_false, Bool.not_true, Bool.or_self, cond_false]
    cases hok : (F_impl_CoverPotential (F_spec_DrawCoverPotential code).1 (F_spec_DrawCoverPotential code).2).2 with
    | false => rfl
    | true => rw [Bool.not_true, cond_false]; exact law_L1 code hok _ _
end Go.Proofs.Ytfhhfhiooehlcaa
