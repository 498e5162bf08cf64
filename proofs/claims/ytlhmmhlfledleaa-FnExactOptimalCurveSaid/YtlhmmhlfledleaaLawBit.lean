/-
  Plain laws on sets of pages as bits, and on what may leave a cache. No condition.
-/
import Derived.Test.YtlhmmhlfledleaaDefS
import Derived.Test.YtlhmmhlfledleaaLawPage
namespace Go.Proofs.Ytlhmmhlfledleaa
open Go

theorem in_bit (s : Nat) {p : Int} (hp : 0 ≤ p) : F_spec_l5In (s : Int) p = s.testBit p.toNat := by
  unfold F_spec_l5In pw
  rw [Nat.testBit_eq_decide_div_mod_eq]
  congr 1
  have e : ((s : Int) / ((2 ^ p.toNat : Nat) : Int)) % 2 = ((s / 2 ^ p.toNat % 2 : Nat) : Int) := by
    rw [← Int.natCast_ediv]; rfl
  rw [e]
  exact propext ⟨fun h => by omega, fun h => by omega⟩
theorem pw_nat (n : Nat) : pw (n : Int) = ((2 ^ n : Nat) : Int) := rfl
theorem in_le {s : Nat} {p : Int} (hp : 0 ≤ p) (h : F_spec_l5In (s : Int) p = true) : pw p ≤ (s : Int) := by
  rw [in_bit s hp] at h
  have := Nat.ge_two_pow_of_testBit h
  unfold pw; omega
theorem after_bd {s : Nat} {n page ot : Int} (hn : 1 ≤ n ∧ n ≤ 8) (hs : (s : Int) < pw n) (hp : 0 ≤ page ∧ page < n) (ho : ot < 0 ∨ pw ot ≤ (s : Int)) : 0 ≤ F_spec_l5After (s : Int) page ot ∧ F_spec_l5After (s : Int) page ot < pw n := by
  have h1 : 2 ^ page.toNat < 2 ^ n.toNat := Nat.pow_lt_pow_right (by omega) (by omega)
  have h0 : s < 2 ^ n.toNat := by unfold pw at hs; omega
  have fin : ∀ q : Nat, q < 2 ^ n.toNat → 0 ≤ orI (q : Int) (pw page) ∧ orI (q : Int) (pw page) < pw n := fun q hq => by
    have h3 := Nat.or_lt_two_pow (n := n.toNat) hq h1
    unfold orI pw
    rw [Int.toNat_natCast, Int.toNat_natCast]
    exact ⟨Int.natCast_nonneg _, Int.ofNat_lt.2 h3⟩
  unfold F_spec_l5After
  by_cases h : 0 ≤ ot
  · have h4 : pw ot ≤ (s : Int) := by rcases ho with ho | ho; omega; exact ho
    rw [decide_eq_true h, cond_true, show (s : Int) - pw ot = ((s - 2 ^ ot.toNat : Nat) : Int) by unfold pw at *; omega]
    exact fin _ (Nat.lt_of_le_of_lt (Nat.sub_le _ _) h0)
  · rw [decide_eq_false h, cond_false]; exact fin s h0
/-! the choices -/
theorem choices_L1 (n st : Int) : ∀ (fuel x : Nat) (out : List Int), n.toNat - x < fuel → x ≤ n.toNat → ∃ x', F_spec_l5Choices_L1 n st fuel (out, x) = .next (out ++ ((List.range' x (n.toNat - x)).map (fun q : Nat => (q : Int))).filter (fun p => F_spec_l5In st p), x') := by
  intro fuel
  induction fuel with
  | zero => intro x out h; omega
  | succ mf ih =>
    intro x out h hx
    rw [F_spec_l5Choices_L1_s]
    by_cases hlt : (x : Int) < n
    · rw [decide_eq_true hlt, cond_true, show n.toNat - x = (n.toNat - (x + 1)) + 1 by omega, List.range'_succ, List.map_cons, List.filter_cons]
      cases hb : F_spec_l5In st (x : Int) with
      | true =>
        obtain ⟨x', e⟩ := ih (x + 1) (out ++ [(x : Int)]) (by omega) (by omega)
        exact ⟨x', by rw [cond_true, e]; simp⟩
      | false =>
        obtain ⟨x', e⟩ := ih (x + 1) out (by omega) (by omega)
        exact ⟨x', by rw [cond_false, e]; simp⟩
    · rw [decide_eq_false hlt, cond_false, show n.toNat - x = 0 by omega]
      exact ⟨x, by simp⟩
/-- The pages. -/
def pages (n : Int) : List Int := (List.range' 0 n.toNat).map fun q : Nat => (q : Int)
theorem pages_mem (n p : Int) : p ∈ pages n ↔ 0 ≤ p ∧ p < n := by
  unfold pages
  rw [List.mem_map]
  constructor
  · rintro ⟨q, hq, rfl⟩
    rw [List.mem_range'_1] at hq
    omega
  · rintro ⟨h1, h2⟩
    exact ⟨p.toNat, by rw [List.mem_range'_1]; omega, by omega⟩
theorem pages_nodup (n : Int) : (pages n).Nodup := by
  unfold pages
  exact List.Pairwise.map _ (fun a b h e => h (by omega)) List.nodup_range'
theorem choices_eq (k n st page : Int) : F_spec_l5Choices k n st page = bif F_spec_l5In st page then [-1] else (bif decide (F_spec_l5Size st < k) then [-1] else []) ++ (pages n).filter fun p => F_spec_l5In st p := by
  unfold F_spec_l5Choices
  cases F_spec_l5In st page with
  | true => rfl
  | false =>
    rw [cond_false, cond_false]
    cases decide (F_spec_l5Size st < k) with
    | true =>
      rw [cond_true, cond_true, elim_next]
      obtain ⟨x', e⟩ := choices_L1 n st (n.toNat - 0 + 1) 0 ([] ++ [-1]) (by omega) (by omega)
      rw [e]; rfl
    | false =>
      rw [cond_false, cond_false, elim_next]
      obtain ⟨x', e⟩ := choices_L1 n st (n.toNat - 0 + 1) 0 [] (by omega) (by omega)
      rw [e]; rfl
theorem choices_bd (k : Int) {n : Int} (s : Nat) (page : Int) {j : Nat} (hj : j < (F_spec_l5Choices k n (s : Int) page).length) :
    (-1 ≤ (F_spec_l5Choices k n (s : Int) page).getD j 0 ∧ ((F_spec_l5Choices k n (s : Int) page).getD j 0 < n ∨ (F_spec_l5Choices k n (s : Int) page).getD j 0 = -1)) ∧ ((F_spec_l5Choices k n (s : Int) page).getD j 0 < 0 ∨ pw ((F_spec_l5Choices k n (s : Int) page).getD j 0) ≤ (s : Int)) := by
  have hm := getD_mem _ j (0 : Int) hj
  generalize (F_spec_l5Choices k n (s : Int) page).getD j 0 = c at hm ⊢
  rw [choices_eq] at hm
  have one : c = -1 → (-1 ≤ c ∧ (c < n ∨ c = -1)) ∧ (c < 0 ∨ pw c ≤ (s : Int)) := fun h => by subst h; exact ⟨⟨by omega, .inr rfl⟩, .inl (by omega)⟩
  cases hb : F_spec_l5In (s : Int) page with
  | true => rw [hb, cond_true] at hm; exact one (List.mem_singleton.1 hm)
  | false =>
    rw [hb, cond_false] at hm
    rcases List.mem_append.1 hm with hm | hm
    · cases hd : decide (F_spec_l5Size (s : Int) < k) with
      | true => rw [hd, cond_true] at hm; exact one (List.mem_singleton.1 hm)
      | false => rw [hd, cond_false] at hm; cases hm
    · obtain ⟨h1, h2⟩ := List.mem_filter.1 hm
      have h3 := (pages_mem n c).1 h1
      exact ⟨⟨by omega, .inl h3.2⟩, .inr (in_le h3.1 h2)⟩
/-! the table while it is made -/
structure Tb (len : Nat) (n i : Int) (t : List (List Int)) : Prop where
  ln : t.length = len + 1
  full : ∀ j : Nat, i < j → j ≤ len → (t.getD j []).length = (pw n).toNat ∧ ∀ q, -1 ≤ (t.getD j []).getD q 0 ∧ (t.getD j []).getD q 0 ≤ (len : Int) - j
  emp : ∀ j : Nat, (j : Int) ≤ i → t.getD j [] = []
structure Tc (len : Nat) (n i : Int) (s : Nat) (t : List (List Int)) : Prop where
  ln : t.length = len + 1
  full : ∀ j : Nat, i < j → j ≤ len → (t.getD j []).length = (pw n).toNat ∧ ∀ q, -1 ≤ (t.getD j []).getD q 0 ∧ (t.getD j []).getD q 0 ≤ (len : Int) - j
  row : (t.getD i.toNat []).length = s ∧ ∀ q, -1 ≤ (t.getD i.toNat []).getD q 0 ∧ (t.getD i.toNat []).getD q 0 ≤ (len : Int) - i
  emp : ∀ j : Nat, (j : Int) < i → t.getD j [] = []
theorem Tb.init (len : Nat) (n : Int) : Tb len n ((len : Int) - 1) ((List.replicate (len + 1) ([] : List Int)).set len (List.replicate ((pw n).toNat) (0 : Int))) := by
  refine ⟨by simp, fun j h1 h2 => ?_, fun j h => ?_⟩
  · obtain rfl : j = len := by omega
    rw [getD_set_eq _ _ _ _ (by simp)]
    refine ⟨by simp, fun q => ?_⟩
    by_cases hq : q < (pw n).toNat
    · simp [List.getD, hq]
    · rw [getD_ge _ _ _ (by simp; omega)]; omega
  · rw [getD_set_ne _ _ _ _ _ (by omega)]
    by_cases hj : j < len + 1
    · simp [List.getD, hj]
    · rw [getD_ge _ _ _ (by simp; omega)]
theorem Tb.start {len : Nat} {n i : Int} {t : List (List Int)} (h : Tb len n i t) (h0 : 0 ≤ i) (hi : i < len) : Tc len n i 0 t := by
  have e : t.getD i.toNat [] = [] := h.emp _ (by omega)
  exact ⟨h.ln, h.full, by rw [e]; exact ⟨rfl, fun q => by simp; omega⟩, fun j hj => h.emp j (by omega)⟩
theorem Tc.push {len : Nat} {n i : Int} {s : Nat} {t : List (List Int)} (h : Tc len n i s t) (h0 : 0 ≤ i) (hi : i < len) {b : Int} (hb : -1 ≤ b) (hb2 : b ≤ (len : Int) - i) : Tc len n i (s + 1) (t.set i.toNat (t.getD i.toNat [] ++ [b])) := by
  have hl := h.ln
  refine ⟨by simpa using h.ln, fun j h1 h2 => ?_, ?_, fun j hj => ?_⟩
  · rw [getD_set_ne _ _ _ _ _ (by omega)]; exact h.full j h1 h2
  · rw [getD_set_eq _ _ _ _ (by omega)]
    have hr := h.row
    generalize t.getD i.toNat [] = r at hr ⊢
    refine ⟨by simp [hr.1], fun q => ?_⟩
    by_cases hq : q < r.length
    · have e : (r ++ [b]).getD q 0 = r.getD q 0 := by simp only [List.getD_eq_getElem?_getD, List.getElem?_append, if_pos hq]
      rw [e]; exact hr.2 q
    · by_cases hq2 : q = r.length
      · have e : (r ++ [b]).getD q 0 = b := by
          rw [hq2]
          simp only [List.getD_eq_getElem?_getD, List.getElem?_append, if_neg (Nat.lt_irrefl _), Nat.sub_self]
          rfl
        rw [e]; exact ⟨hb, hb2⟩
      · rw [getD_ge _ _ _ (by simp only [List.length_append, List.length_cons, List.length_nil]; omega)]; omega
  · rw [getD_set_ne _ _ _ _ _ (by omega)]; exact h.emp j hj
theorem Tc.done {len : Nat} {n i : Int} {s : Nat} {t : List (List Int)} (h : Tc len n i s t) (h0 : 0 ≤ i) (hs : s = (pw n).toNat) : Tb len n (i - 1) t := by
  refine ⟨h.ln, fun j h1 h2 => ?_, fun j hj => h.emp j (by omega)⟩
  by_cases hji : (j : Int) = i
  · have := h.row
    rw [show i.toNat = j by omega] at this
    exact ⟨by rw [this.1, hs], fun q => by have := this.2 q; omega⟩
  · exact h.full j (by omega) h2
end Go.Proofs.Ytlhmmhlfledleaa
