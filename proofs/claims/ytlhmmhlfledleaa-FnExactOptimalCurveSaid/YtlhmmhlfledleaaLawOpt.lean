/-
  Plain laws on the fewest faults: the table of all sets of pages has the least costs, and so has the plan that lets go of the farthest. No condition.
-/
import Derived.Test.YtlhmmhlfledleaaLawBit
import Derived.Test.YtlhmmhlfledleaaLawFif
namespace Go.Proofs.Ytlhmmhlfledleaa
open Go

/-! sets as bits -/
def setOf (s : Nat) : Int → Bool := fun x => decide (0 ≤ x) && s.testBit x.toNat
theorem in_set (s : Nat) {p : Int} (hp : 0 ≤ p) : F_spec_l5In (s : Int) p = setOf s p := by
  rw [in_bit s hp]; unfold setOf; rw [decide_eq_true hp, Bool.true_and]
theorem sub_bit {s o : Nat} (h : s.testBit o = true) (j : Nat) : (s - 2 ^ o).testBit j = (s.testBit j && !decide (j = o)) := by
  rw [Nat.testBit_eq_decide_div_mod_eq, decide_eq_true_eq] at h
  have hr : s % 2 ^ o < 2 ^ o := Nat.mod_lt _ (Nat.pow_pos (by omega))
  obtain ⟨q, hq⟩ : ∃ q, s / 2 ^ o = 2 * q + 1 := ⟨s / 2 ^ o / 2, by omega⟩
  have e1 : s = 2 ^ o * (2 * q + 1) + s % 2 ^ o := by rw [← hq]; exact (Nat.div_add_mod s (2 ^ o)).symm
  have e2 : s - 2 ^ o = 2 ^ o * (2 * q) + s % 2 ^ o := by
    rw [Nat.mul_add, Nat.mul_one] at e1
    generalize 2 ^ o * (2 * q) = z at e1 ⊢
    omega
  rw [e2, Nat.testBit_two_pow_mul_add _ hr]
  have e3 := congrArg (fun x => x.testBit j) e1
  simp only [Nat.testBit_two_pow_mul_add _ hr] at e3
  rw [e3]
  by_cases hj : j < o
  · rw [if_pos hj, if_pos hj, decide_eq_false (by omega)]; simp
  · rw [if_neg hj, if_neg hj]
    by_cases hjo : j = o
    · subst hjo
      rw [Nat.sub_self, Nat.testBit_zero, decide_eq_true rfl, decide_eq_false (by omega)]
      simp
    · obtain ⟨m, hm⟩ : ∃ m, j - o = m + 1 := ⟨j - o - 1, by omega⟩
      rw [hm, Nat.testBit_succ, Nat.testBit_succ, decide_eq_false hjo, show (2 * q) / 2 = q by omega, show (2 * q + 1) / 2 = q by omega]
      simp
theorem or_bit (s p j : Nat) : (s ||| 2 ^ p).testBit j = (s.testBit j || decide (p = j)) := by rw [Nat.testBit_or, Nat.testBit_two_pow]
theorem after_none (s : Nat) {page : Int} (hp : 0 ≤ page) : setOf (F_spec_l5After (s : Int) page (-1)).toNat = padd (setOf s) page := by
  unfold F_spec_l5After
  rw [decide_eq_false (by omega), cond_false]
  unfold orI pw
  rw [Int.toNat_natCast, Int.toNat_natCast, Int.toNat_natCast]
  funext x
  unfold setOf padd
  dsimp only
  rw [or_bit]
  by_cases hx : 0 ≤ x
  · rw [decide_eq_true hx, Bool.true_and, Bool.true_and, Bool.or_comm]
    congr 1
    rw [decide_eq_decide]; omega
  · rw [decide_eq_false hx, Bool.false_and, Bool.false_and, decide_eq_false (by omega)]; rfl
theorem after_some {s : Nat} {page o : Int} (hp : 0 ≤ page) (ho : 0 ≤ o) (h : setOf s o = true) : setOf (F_spec_l5After (s : Int) page o).toNat = padd (pdel (setOf s) o) page := by
  have hb : s.testBit o.toNat = true := by unfold setOf at h; rw [decide_eq_true ho, Bool.true_and] at h; exact h
  have hle := Nat.ge_two_pow_of_testBit hb
  unfold F_spec_l5After
  rw [decide_eq_true ho, cond_true]
  unfold orI pw
  rw [show (s : Int) - ((2 ^ o.toNat : Nat) : Int) = ((s - 2 ^ o.toNat : Nat) : Int) by omega, Int.toNat_natCast, Int.toNat_natCast, Int.toNat_natCast]
  funext x
  unfold setOf padd pdel
  dsimp only
  rw [or_bit, sub_bit hb]
  by_cases hx : 0 ≤ x
  · rw [decide_eq_true hx, Bool.true_and, Bool.true_and, Bool.or_comm, show decide (page.toNat = x.toNat) = decide (x = page) by rw [decide_eq_decide]; omega, show decide (x.toNat = o.toNat) = decide (x = o) by rw [decide_eq_decide]; omega]
    congr 1
    exact Bool.and_comm ..
  · rw [decide_eq_false hx, Bool.false_and, Bool.false_and, decide_eq_false (by omega), Bool.and_false]; rfl
def cnt : Nat → Nat → Nat
  | 0, _ => 0
  | n + 1, s => s % 2 + cnt n (s / 2)
theorem cnt_zero : ∀ n, cnt n 0 = 0
  | 0 => rfl
  | n + 1 => by rw [cnt, cnt_zero]
theorem size_L1 : ∀ (n s fuel : Nat) (z : Int), s < 2 ^ n → s < fuel → ∃ x, F_spec_l5Size_L1 fuel ((s : Int), z) = .next (x, z + cnt n s) := by
  intro n
  induction n with
  | zero =>
    intro s fuel z hs hf
    obtain rfl : s = 0 := by simpa using hs
    obtain ⟨f, rfl⟩ : ∃ f, fuel = f + 1 := ⟨fuel - 1, by omega⟩
    rw [F_spec_l5Size_L1_s, decide_eq_false (by omega), cond_false]
    exact ⟨((0 : Nat) : Int), by simp [cnt]⟩
  | succ n ih =>
    intro s fuel z hs hf
    obtain ⟨f, rfl⟩ : ∃ f, fuel = f + 1 := ⟨fuel - 1, by omega⟩
    rw [F_spec_l5Size_L1_s]
    by_cases h0 : 0 < s
    · rw [decide_eq_true (show (0 : Int) < (s : Int) by omega), cond_true]
      obtain ⟨x, e⟩ := ih (s / 2) f (z + (s : Int) % 2) (by rw [Nat.pow_succ] at hs; omega) (by omega)
      refine ⟨x, ?_⟩
      rw [show (s : Int) / 2 = ((s / 2 : Nat) : Int) by omega, e, cnt]
      congr 2
      omega
    · obtain rfl : s = 0 := by omega
      rw [decide_eq_false (by omega), cond_false, cnt_zero]
      exact ⟨((0 : Nat) : Int), by simp⟩
theorem countP_range (s : Nat) : ∀ (n a : Nat), (List.range' a n).countP (fun q => s.testBit q) = cnt n (s / 2 ^ a)
  | 0, _ => rfl
  | n + 1, a => by
    rw [List.range'_succ, List.countP_cons, countP_range s n (a + 1), cnt, Nat.testBit_eq_decide_div_mod_eq, Nat.pow_succ, ← Nat.div_div_eq_div_mul]
    generalize s / 2 ^ a = z
    by_cases h : z % 2 = 1
    · rw [h]; simp; omega
    · have : z % 2 = 0 := by omega
      rw [this]; simp
theorem size_card {n : Int} {s : Nat} (hs : (s : Int) < pw n) : F_spec_l5Size (s : Int) = (card (pages n) (setOf s) : Nat) := by
  have hs' : s < 2 ^ n.toNat := by unfold pw at hs; omega
  unfold F_spec_l5Size
  obtain ⟨x, e⟩ := size_L1 n.toNat s ((s : Int).toNat + 1) 0 hs' (by omega)
  rw [e, elim_next]
  have h := countP_range s n.toNat 0
  rw [Nat.pow_zero, Nat.div_one] at h
  unfold card pages
  have e2 : (setOf s ∘ fun q : Nat => (q : Int)) = fun q => s.testBit q := by
    funext q
    show setOf s (q : Int) = s.testBit q
    unfold setOf
    rw [decide_eq_true (show (0 : Int) ≤ (q : Int) by omega), Bool.true_and, Int.toNat_natCast]
  rw [List.countP_map, e2, h, Int.zero_add]
theorem card_le_n (n : Int) (S : Int → Bool) : card (pages n) S ≤ n.toNat := by
  have := List.countP_le_length (p := S) (l := pages n)
  unfold pages at this
  rw [List.length_map, List.length_range'] at this
  exact this

/-! the choices, by their order -/
def val (reqs : List Int) (row : List Int) (i s : Nat) (c : Int) : Int := row.getD (F_spec_l5After (s : Int) (reqs.getD i 0) c).toNat 0 + (bif F_spec_l5In (s : Int) (reqs.getD i 0) then 0 else 1)
theorem L3_val (k n : Int) (reqs : List Int) (i s : Nat) (t : List (List Int)) (mf : Nat) (b : Int) (j : Nat) : F_spec_l5Fewest_L3 k n reqs (i : Int) s t (mf + 1) (b, j) =
    (bif ((decide ((j : Int) < ((F_spec_l5Choices k n (s : Int) (reqs.getD i 0)).length : Int))) && (decide ((F_spec_l5Size (s : Int)) ≤ k))) then
      F_spec_l5Fewest_L3 k n reqs (i : Int) s t mf ((bif ((decide (b < 0)) || (decide (val reqs (t.getD (i + 1) []) i s ((F_spec_l5Choices k n (s : Int) (reqs.getD i 0)).getD j 0) < b))) then val reqs (t.getD (i + 1) []) i s ((F_spec_l5Choices k n (s : Int) (reqs.getD i 0)).getD j 0) else b), j + 1)
    else (.next (b, j))) := by
  rw [F_spec_l5Fewest_L3_s]
  unfold val
  rw [Int.toNat_natCast, show ((i : Int) + 1).toNat = i + 1 by omega]
  cases ((decide ((j : Int) < ((F_spec_l5Choices k n (s : Int) (reqs.getD i 0)).length : Int))) && (decide ((F_spec_l5Size (s : Int)) ≤ k))) with
  | false => rfl
  | true =>
    rw [cond_true, cond_true]
    cases F_spec_l5In (s : Int) (reqs.getD i 0) with
    | true =>
      rw [Bool.not_true, cond_false]
      simp only [cond_true, Int.add_zero]
      cases ((decide (b < 0)) || (decide (((t.getD (i + 1) []).getD (F_spec_l5After (s : Int) (reqs.getD i 0) ((F_spec_l5Choices k n (s : Int) (reqs.getD i 0)).getD j 0)).toNat 0) < b))) <;> rfl
    | false =>
      rw [Bool.not_false, cond_true]
      simp only [cond_false]
      cases ((decide (b < 0)) || (decide (((t.getD (i + 1) []).getD (F_spec_l5After (s : Int) (reqs.getD i 0) ((F_spec_l5Choices k n (s : Int) (reqs.getD i 0)).getD j 0)).toNat 0) + 1 < b))) <;> rfl
theorem L3_next (k n : Int) (reqs : List Int) (i s : Nat) (t : List (List Int)) : ∀ (fuel : Nat) (b : Int) (j : Nat), ∃ b' j', F_spec_l5Fewest_L3 k n reqs (i : Int) s t fuel (b, j) = .next (b', j') := by
  intro fuel
  induction fuel with
  | zero => intro b j; exact ⟨b, j, rfl⟩
  | succ mf ih =>
    intro b j
    rw [L3_val]
    cases ((decide ((j : Int) < ((F_spec_l5Choices k n (s : Int) (reqs.getD i 0)).length : Int))) && (decide ((F_spec_l5Size (s : Int)) ≤ k))) with
    | true => rw [cond_true]; exact ih _ _
    | false => exact ⟨b, j, rfl⟩
theorem L3_congr (k n : Int) (reqs : List Int) (i s : Nat) {t t' : List (List Int)} (h : t.getD (i + 1) [] = t'.getD (i + 1) []) : ∀ (fuel : Nat) (b : Int) (j : Nat), F_spec_l5Fewest_L3 k n reqs (i : Int) s t fuel (b, j) = F_spec_l5Fewest_L3 k n reqs (i : Int) s t' fuel (b, j) := by
  intro fuel
  induction fuel with
  | zero => intro b j; rfl
  | succ mf ih => intro b j; rw [L3_val, L3_val, h, ih]
theorem L3_min (k n : Int) (reqs : List Int) (i s : Nat) (t : List (List Int)) (hs : F_spec_l5Size (s : Int) ≤ k)
    (hv : ∀ q, q < (F_spec_l5Choices k n (s : Int) (reqs.getD i 0)).length → 0 ≤ val reqs (t.getD (i + 1) []) i s ((F_spec_l5Choices k n (s : Int) (reqs.getD i 0)).getD q 0)) :
    ∀ (fuel : Nat) (b : Int) (j : Nat), (F_spec_l5Choices k n (s : Int) (reqs.getD i 0)).length - j < fuel → j ≤ (F_spec_l5Choices k n (s : Int) (reqs.getD i 0)).length →
      ((j = 0 ∧ b = -1) ∨ (0 < j ∧ (∃ q, q < j ∧ b = val reqs (t.getD (i + 1) []) i s ((F_spec_l5Choices k n (s : Int) (reqs.getD i 0)).getD q 0)) ∧ ∀ q, q < j → b ≤ val reqs (t.getD (i + 1) []) i s ((F_spec_l5Choices k n (s : Int) (reqs.getD i 0)).getD q 0))) →
      ∃ b' j', F_spec_l5Fewest_L3 k n reqs (i : Int) s t fuel (b, j) = .next (b', j') ∧ (0 < (F_spec_l5Choices k n (s : Int) (reqs.getD i 0)).length →
        (∃ q, q < (F_spec_l5Choices k n (s : Int) (reqs.getD i 0)).length ∧ b' = val reqs (t.getD (i + 1) []) i s ((F_spec_l5Choices k n (s : Int) (reqs.getD i 0)).getD q 0)) ∧ ∀ q, q < (F_spec_l5Choices k n (s : Int) (reqs.getD i 0)).length → b' ≤ val reqs (t.getD (i + 1) []) i s ((F_spec_l5Choices k n (s : Int) (reqs.getD i 0)).getD q 0)) := by
  intro fuel
  generalize hcs : F_spec_l5Choices k n (s : Int) (reqs.getD i 0) = cs at hv ⊢
  induction fuel with
  | zero => intro b j h; omega
  | succ mf ih =>
    intro b j h hj hJ
    rw [L3_val, hcs]
    by_cases hlt : j < cs.length
    · rw [decide_eq_true (show (j : Int) < (cs.length : Int) by omega), decide_eq_true hs, Bool.and_self, cond_true]
      have hvj := hv j hlt
      generalize hw : val reqs (t.getD (i + 1) []) i s (cs.getD j 0) = w at hvj ⊢
      refine ih _ (j + 1) (by omega) (by omega) (.inr ⟨by omega, ?_⟩)
      by_cases hb : b < 0 ∨ w < b
      · have : (decide (b < 0) || decide (w < b)) = true := by
          rcases hb with hb | hb
          · rw [decide_eq_true hb]; rfl
          · rw [decide_eq_true hb, Bool.or_true]
        rw [this, cond_true]
        refine ⟨⟨j, by omega, hw.symm⟩, fun q hq => ?_⟩
        rcases Nat.lt_or_eq_of_le (Nat.le_of_lt_succ hq) with h1 | h1
        · rcases hJ with ⟨h2, _⟩ | ⟨_, ⟨p, h2, h3⟩, h4⟩
          · omega
          · have := h4 q h1
            have := hv p (by omega)
            rw [← h3] at this
            rcases hb with hb | hb <;> omega
        · rw [h1, hw]; exact Int.le_refl _
      · have h1 : ¬ b < 0 := fun h => hb (.inl h)
        have h2 : ¬ w < b := fun h => hb (.inr h)
        rw [decide_eq_false h1, decide_eq_false h2, Bool.or_self, cond_false]
        rcases hJ with ⟨_, h3⟩ | ⟨_, ⟨p, h3, h4⟩, h5⟩
        · omega
        · refine ⟨⟨p, by omega, h4⟩, fun q hq => ?_⟩
          rcases Nat.lt_or_eq_of_le (Nat.le_of_lt_succ hq) with h6 | h6
          · exact h5 q h6
          · rw [h6, hw]; omega
    · rw [decide_eq_false (show ¬ (j : Int) < (cs.length : Int) by omega), Bool.false_and, cond_false]
      refine ⟨b, j, rfl, fun h0 => ?_⟩
      obtain rfl : j = cs.length := by omega
      rcases hJ with ⟨h1, _⟩ | ⟨_, h2, h3⟩
      · omega
      · exact ⟨h2, h3⟩

theorem app_old (r : List Int) (b : Int) {q : Nat} (h : q < r.length) : (r ++ [b]).getD q 0 = r.getD q 0 := by simp only [List.getD_eq_getElem?_getD, List.getElem?_append, if_pos h]
theorem app_new (r : List Int) (b : Int) : (r ++ [b]).getD r.length 0 = b := by
  simp only [List.getD_eq_getElem?_getD, List.getElem?_append, if_neg (Nat.lt_irrefl _), Nat.sub_self]
  rfl
/-! a row -/
theorem L2_row (k n : Int) (reqs : List Int) (i : Nat) (hi : i < reqs.length) : ∀ (fuel s : Nat) (t : List (List Int)), (pw n).toNat - s < fuel → s ≤ (pw n).toNat → t.length = reqs.length + 1 → (t.getD i []).length = s →
    ∃ s' t', F_spec_l5Fewest_L2 k n reqs (i : Int) fuel (s, t) = .next (s', t') ∧ t'.length = reqs.length + 1 ∧ (∀ j, j ≠ i → t'.getD j [] = t.getD j []) ∧ (t'.getD i []).length = (pw n).toNat ∧ (∀ q, q < s → (t'.getD i []).getD q 0 = (t.getD i []).getD q 0) ∧
      ∀ q, s ≤ q → q < (pw n).toNat → ∃ j', F_spec_l5Fewest_L3 k n reqs (i : Int) q t (((F_spec_l5Choices k n (q : Int) (reqs.getD i 0)).length - 0) + 1) ((-1), 0) = .next ((t'.getD i []).getD q 0, j') := by
  intro fuel
  induction fuel with
  | zero => intro s t h; omega
  | succ mf ih =>
    intro s t h hs hl hr
    rw [F_spec_l5Fewest_L2_s, Int.toNat_natCast]
    by_cases hlt : s < (pw n).toNat
    · obtain ⟨b, j, e⟩ := L3_next k n reqs i s t (((F_spec_l5Choices k n (s : Int) (reqs.getD i 0)).length - 0) + 1) (-1) 0
      rw [decide_eq_true (show (s : Int) < pw n by omega), cond_true, e, elim_next]
      have g1 : (t.set i (t.getD i [] ++ [b])).getD i [] = t.getD i [] ++ [b] := getD_set_eq _ _ _ _ (by omega)
      have g2 : ∀ j, j ≠ i → (t.set i (t.getD i [] ++ [b])).getD j [] = t.getD j [] := fun j hj => getD_set_ne _ _ _ _ _ (Ne.symm hj)
      obtain ⟨s', t', e1, e2, e3, e4, e5, e6⟩ := ih (s + 1) (t.set i (t.getD i [] ++ [b])) (by omega) (by omega) (by simpa using hl) (by rw [g1, List.length_append, hr]; rfl)
      have old : ∀ q, q < s → (t.getD i [] ++ [b]).getD q 0 = (t.getD i []).getD q 0 := fun q hq => app_old _ b (by omega)
      have new : (t.getD i [] ++ [b]).getD s 0 = b := by
        have := app_new (t.getD i []) b
        rw [hr] at this
        exact this
      refine ⟨s', t', e1, e2, fun j hj => (e3 j hj).trans (g2 j hj), e4, fun q hq => ?_, fun q h1 h2 => ?_⟩
      · rw [e5 q (by omega), g1, old q hq]
      · rcases Nat.eq_or_lt_of_le h1 with h3 | h3
        · subst h3
          rw [e5 s (by omega), g1, new]
          exact ⟨j, e⟩
        · obtain ⟨j', e7⟩ := e6 q (by omega) h2
          exact ⟨j', by rw [← e7]; exact L3_congr k n reqs i q (g2 (i + 1) (by omega)).symm _ _ _⟩
    · rw [decide_eq_false (show ¬ (s : Int) < pw n by omega), cond_false]
      exact ⟨s, t, rfl, hl, fun _ _ => rfl, by omega, fun _ _ => rfl, fun q h1 h2 => by omega⟩

/-- A row of the table has the least costs. -/
def RowOpt (k : Nat) (n : Int) (reqs : List Int) (i : Nat) (row : List Int) : Prop := ∀ s : Nat, (s : Int) < pw n → card (pages n) (setOf s) ≤ k →
  ∃ v : Nat, row.getD s 0 = (v : Int) ∧ Cost k (pages n) (reqs.drop i) (setOf s) v ∧ ∀ c, Cost k (pages n) (reqs.drop i) (setOf s) c → v ≤ c
theorem choice_mem {k n : Int} {s : Nat} {page c : Int} (hf : setOf s page = false) (hp : 0 ≤ page) (hs : (s : Int) < pw n) : c ∈ F_spec_l5Choices k n (s : Int) page ↔ (c = -1 ∧ ((card (pages n) (setOf s) : Nat) : Int) < k) ∨ (c ∈ pages n ∧ setOf s c = true) := by
  rw [choices_eq, in_set s hp, hf, cond_false, List.mem_append, List.mem_filter, size_card hs]
  refine or_congr ?_ ⟨fun h => ?_, fun h => ?_⟩
  · by_cases h : ((card (pages n) (setOf s) : Nat) : Int) < k
    · rw [decide_eq_true h, cond_true, List.mem_singleton]; exact ⟨fun e => ⟨e, h⟩, fun e => e.1⟩
    · rw [decide_eq_false h, cond_false]; exact ⟨fun e => (by cases e), fun e => absurd e.2 h⟩
  · exact ⟨h.1, by rw [← in_set s ((pages_mem n c).1 h.1).1]; exact h.2⟩
  · exact ⟨h.1, by rw [in_set s ((pages_mem n c).1 h.1).1]; exact h.2⟩
theorem row_step {k : Nat} (hk : 1 ≤ k) {n : Int} (hn : 1 ≤ n ∧ n ≤ 8) {reqs : List Int} (hr : ∀ i, i < reqs.length → 0 ≤ reqs.getD i 0 ∧ reqs.getD i 0 < n) {i : Nat} (hi : i < reqs.length) {t : List (List Int)} (hR : RowOpt k n reqs (i + 1) (t.getD (i + 1) []))
    {s : Nat} (hs : (s : Int) < pw n) (hc : card (pages n) (setOf s) ≤ k) {b : Int} {j : Nat} (he : F_spec_l5Fewest_L3 (k : Int) n reqs (i : Int) s t (((F_spec_l5Choices (k : Int) n (s : Int) (reqs.getD i 0)).length - 0) + 1) ((-1), 0) = .next (b, j)) :
    ∃ v : Nat, b = (v : Int) ∧ Cost k (pages n) (reqs.drop i) (setOf s) v ∧ ∀ c, Cost k (pages n) (reqs.drop i) (setOf s) c → v ≤ c := by
  have hp := hr i hi
  have hU := pages_nodup n
  have hpU : reqs.getD i 0 ∈ pages n := (pages_mem n _).2 hp
  have hdrop : reqs.drop i = reqs.getD i 0 :: reqs.drop (i + 1) := by rw [List.drop_eq_getElem_cons hi, getD_lt reqs i 0 hi]
  have hsz : F_spec_l5Size (s : Int) ≤ (k : Int) := by rw [size_card hs]; omega
  have hvv : ∀ c : Int, (c < 0 ∨ pw c ≤ (s : Int)) → ((F_spec_l5After (s : Int) (reqs.getD i 0) c).toNat : Int) < pw n := fun c h => by
    have := after_bd (ot := c) hn hs hp h
    omega
  rw [hdrop]
  cases hin : setOf s (reqs.getD i 0) with
  | true =>
    -- a hit
    have hch : F_spec_l5Choices (k : Int) n (s : Int) (reqs.getD i 0) = [-1] := by rw [choices_eq, in_set s hp.1, hin, cond_true]
    have hset : setOf (F_spec_l5After (s : Int) (reqs.getD i 0) (-1)).toNat = setOf s := by
      rw [after_none s hp.1]
      exact pext fun x => by
        rw [padd_t]
        exact ⟨fun h => by rcases h with rfl | h; exact hin; exact h, .inr⟩
    obtain ⟨v, h1, h2, h3⟩ := hR _ (hvv (-1) (.inl (by omega))) (by rw [hset]; exact hc)
    rw [hset] at h2 h3
    have hval : val reqs (t.getD (i + 1) []) i s (-1) = (v : Int) := by
      unfold val; rw [in_set s hp.1, hin, cond_true, h1, Int.add_zero]
    obtain ⟨b', j', e1, e2⟩ := L3_min (k : Int) n reqs i s t hsz (fun q hq => by
      rw [hch] at hq ⊢
      have : q = 0 := by simpa using hq
      subst this
      show 0 ≤ val reqs (t.getD (i + 1) []) i s (-1)
      rw [hval]; omega) (((F_spec_l5Choices (k : Int) n (s : Int) (reqs.getD i 0)).length - 0) + 1) (-1) 0 (by omega) (by omega) (.inl ⟨rfl, rfl⟩)
    rw [he] at e1
    injection e1 with e1
    injection e1 with e1 _
    subst e1
    obtain ⟨⟨q, h4, h5⟩, _⟩ := e2 (by rw [hch]; simp)
    rw [hch] at h4 h5
    have : q = 0 := by simpa using h4
    subst this
    refine ⟨v, by rw [h5]; exact hval, .inl ⟨hin, h2⟩, fun c h => ?_⟩
    rcases h with ⟨_, h⟩ | ⟨h, _⟩
    · exact h3 c h
    · rw [hin] at h; cases h
  | false =>
    -- a fault
    have hmem := fun c => choice_mem (k := (k : Int)) (c := c) hin hp.1 hs
    have hgood : ∀ c, c ∈ F_spec_l5Choices (k : Int) n (s : Int) (reqs.getD i 0) → ∃ v : Nat, val reqs (t.getD (i + 1) []) i s c = ((v + 1 : Nat) : Int) ∧ Cost k (pages n) (reqs.drop (i + 1)) (setOf (F_spec_l5After (s : Int) (reqs.getD i 0) c).toNat) v ∧
        ∀ d, Cost k (pages n) (reqs.drop (i + 1)) (setOf (F_spec_l5After (s : Int) (reqs.getD i 0) c).toNat) d → v ≤ d := fun c hcm => by
      have hv0 : ∀ (v : Nat), (t.getD (i + 1) []).getD (F_spec_l5After (s : Int) (reqs.getD i 0) c).toNat 0 = (v : Int) → val reqs (t.getD (i + 1) []) i s c = ((v + 1 : Nat) : Int) := fun v h => by
        unfold val; rw [in_set s hp.1, hin, cond_false, h]; omega
      rcases (hmem c).1 hcm with ⟨rfl, hlt⟩ | ⟨hcU, hcs⟩
      · obtain ⟨v, h1, h2, h3⟩ := hR _ (hvv (-1) (.inl (by omega))) (by rw [after_none s hp.1, card_add hin hU hpU]; omega)
        exact ⟨v, hv0 v h1, h2, h3⟩
      · have hc0 := ((pages_mem n c).1 hcU).1
        have hd := card_del hcs hU hcU
        have ha := card_add (S := pdel (setOf s) c) (r := reqs.getD i 0) (by show (!decide (reqs.getD i 0 = c) && setOf s (reqs.getD i 0)) = false; rw [hin, Bool.and_false]) hU hpU
        obtain ⟨v, h1, h2, h3⟩ := hR _ (hvv c (.inr (in_le hc0 (by rw [in_set s hc0]; exact hcs)))) (by rw [after_some hp.1 hc0 hcs]; omega)
        exact ⟨v, hv0 v h1, h2, h3⟩
    obtain ⟨b', j', e1, e2⟩ := L3_min (k : Int) n reqs i s t hsz (fun q hq => by
      obtain ⟨v, h1, _⟩ := hgood _ (getD_mem _ q 0 hq)
      rw [h1]; omega) (((F_spec_l5Choices (k : Int) n (s : Int) (reqs.getD i 0)).length - 0) + 1) (-1) 0 (by omega) (by omega) (.inl ⟨rfl, rfl⟩)
    rw [he] at e1
    injection e1 with e1
    injection e1 with e1 _
    subst e1
    have hne : 0 < (F_spec_l5Choices (k : Int) n (s : Int) (reqs.getD i 0)).length := by
      by_cases hlt : card (pages n) (setOf s) < k
      · exact List.length_pos_of_mem ((hmem (-1)).2 (.inl ⟨rfl, by omega⟩))
      · obtain ⟨z, h1, h2⟩ := List.countP_pos_iff.1 (show 0 < (pages n).countP (setOf s) by unfold card at *; omega)
        exact List.length_pos_of_mem ((hmem z).2 (.inr ⟨h1, h2⟩))
    obtain ⟨⟨q, h4, h5⟩, h6⟩ := e2 hne
    obtain ⟨v, g1, g2, g3⟩ := hgood _ (getD_mem _ q 0 h4)
    refine ⟨v + 1, by rw [h5, g1], ?_, fun c h => ?_⟩
    · refine .inr ⟨hin, v, rfl, ?_⟩
      rcases (hmem _).1 (getD_mem _ q 0 h4) with ⟨hm1, hlt⟩ | ⟨hcU, hcs⟩
      · rw [hm1, after_none s hp.1] at g2
        exact .inl ⟨by omega, g2⟩
      · rw [after_some hp.1 ((pages_mem n _).1 hcU).1 hcs] at g2
        exact .inr ⟨_, hcU, hcs, g2⟩
    · rcases h with ⟨h, _⟩ | ⟨_, c', rfl, h⟩
      · rw [hin] at h; cases h
      · have fin : ∀ z, z ∈ F_spec_l5Choices (k : Int) n (s : Int) (reqs.getD i 0) → Cost k (pages n) (reqs.drop (i + 1)) (setOf (F_spec_l5After (s : Int) (reqs.getD i 0) z).toNat) c' → v + 1 ≤ c' + 1 := fun z hz hz2 => by
          obtain ⟨p, hp1, hp2⟩ := mem_getD.1 hz
          obtain ⟨w, k1, _, k3⟩ := hgood z hz
          have h7 := h6 p hp1
          rw [hp2, k1, h5, g1] at h7
          have := k3 c' hz2
          omega
        rcases h with ⟨hlt, h⟩ | ⟨z, hzU, hzs, h⟩
        · exact fin (-1) ((hmem _).2 (.inl ⟨rfl, by omega⟩)) (by rw [after_none s hp.1]; exact h)
        · exact fin z ((hmem _).2 (.inr ⟨hzU, hzs⟩)) (by rw [after_some hp.1 ((pages_mem n z).1 hzU).1 hzs]; exact h)
theorem L1_table (k : Nat) {n : Int} (reqs : List Int) : ∀ (fuel : Nat) (i : Nat) (t : List (List Int)), i < fuel → i ≤ reqs.length → t.length = reqs.length + 1 → (∀ j, j < i → t.getD j [] = []) → (t.getD i []).length = (pw n).toNat →
    ∃ x t', F_spec_l5Fewest_L1 (k : Int) n reqs fuel ((i : Int) - 1, t) = .next (x, t') ∧ t'.length = reqs.length + 1 ∧ (t'.getD 0 []).length = (pw n).toNat ∧
      (1 ≤ k → (1 ≤ n ∧ n ≤ 8) → (∀ i, i < reqs.length → 0 ≤ reqs.getD i 0 ∧ reqs.getD i 0 < n) → RowOpt k n reqs i (t.getD i []) → RowOpt k n reqs 0 (t'.getD 0 [])) := by
  intro fuel
  induction fuel with
  | zero => intro i t h; omega
  | succ mf ih =>
    intro i t h hi hl he hr
    rw [F_spec_l5Fewest_L1_s]
    by_cases h0 : 0 < i
    · obtain ⟨p, rfl⟩ : ∃ p, i = p + 1 := ⟨i - 1, by omega⟩
      rw [show ((p + 1 : Nat) : Int) - 1 = (p : Int) by omega, decide_eq_true (show (0 : Int) ≤ (p : Int) by omega), cond_true]
      obtain ⟨s', t', e1, e2, e3, e4, _, e6⟩ := L2_row (k : Int) n reqs p (by omega) ((pw n).toNat - 0 + 1) 0 t (by omega) (by omega) hl (by rw [he p (by omega)]; rfl)
      rw [e1, elim_next]
      obtain ⟨x, t2, f1, f2, f3, f4⟩ := ih p t' (by omega) (by omega) e2 (fun j hj => by rw [e3 j (by omega)]; exact he j (by omega)) e4
      refine ⟨x, t2, f1, f2, f3, fun hk hn hq hR => f4 hk hn hq fun s hs hc => ?_⟩
      have hlt : s < (pw n).toNat := by omega
      obtain ⟨j', e7⟩ := e6 s (by omega) hlt
      exact row_step hk hn hq (by omega) hR hs hc e7
    · obtain rfl : i = 0 := by omega
      rw [decide_eq_false (by omega), cond_false]
      exact ⟨_, t, rfl, hl, hr, fun _ _ _ hR => hR⟩
theorem fewest_both (k : Nat) {n : Int} (reqs : List Int) : (F_spec_l5Fewest (k : Int) n reqs).length = reqs.length + 1 ∧ ((F_spec_l5Fewest (k : Int) n reqs).getD 0 []).length = (pw n).toNat ∧
    (1 ≤ k → (1 ≤ n ∧ n ≤ 8) → (∀ i, i < reqs.length → 0 ≤ reqs.getD i 0 ∧ reqs.getD i 0 < n) → RowOpt k n reqs 0 ((F_spec_l5Fewest (k : Int) n reqs).getD 0 [])) := by
  unfold F_spec_l5Fewest
  have g : ((List.replicate (reqs.length + 1) ([] : List Int)).set reqs.length (List.replicate ((pw n).toNat) (0 : Int))).getD reqs.length [] = List.replicate ((pw n).toNat) (0 : Int) := getD_set_eq _ _ _ _ (by simp)
  obtain ⟨x, t', e1, e2, e3, e4⟩ := L1_table k (n := n) reqs ((((reqs.length : Int) - 1) + 1).toNat + 1) reqs.length ((List.replicate (reqs.length + 1) ([] : List Int)).set reqs.length (List.replicate ((pw n).toNat) (0 : Int))) (by omega) (Nat.le_refl _) (by simp) (fun j hj => by
    rw [getD_set_ne _ _ _ _ _ (by omega)]
    simp [List.getD, show j < reqs.length + 1 by omega]) (by rw [g]; simp)
  rw [e1, elim_next]
  refine ⟨e2, e3, fun hk hn hq => e4 hk hn hq fun s hs _ => ⟨0, ?_, ?_, fun c _ => Nat.zero_le _⟩⟩
  · rw [g]
    simp [List.getD, show s < (pw n).toNat by omega]
  · rw [List.drop_length]; rfl
theorem choices_len (k n : Int) (st page : Int) : (F_spec_l5Choices k n st page).length ≤ n.toNat + 1 := by
  rw [choices_eq]
  have h1 : ((pages n).filter fun p => F_spec_l5In st p).length ≤ n.toNat := by
    refine Nat.le_trans (List.length_filter_le _ _) ?_
    unfold pages; simp
  cases F_spec_l5In st page with
  | true => simp
  | false =>
    rw [cond_false, List.length_append]
    cases decide (F_spec_l5Size st < k) <;> simp <;> omega
end Go.Proofs.Ytlhmmhlfledleaa
