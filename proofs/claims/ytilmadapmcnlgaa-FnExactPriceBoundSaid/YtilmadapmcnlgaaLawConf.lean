/-
  Plain laws on the lists of configurations: how long they are. No condition.
-/
import Derived.Test.YtilmadapmcnlgaaDefA
import Derived.Test.YtilmadapmcnlgaaPlain
namespace Go.Proofs.Ytilmadapmcnlgaa

theorem cf_L2 (n k : Int) (rec : Int → Int → Int → List (List Int)) (x : Int) : ∀ (m : Nat) (out : List (List Int)) (j : Nat),
    ∃ out' j', F_impl_configsOf_L2 n k rec x m (out, j) = .next (out', j') ∧ out'.length ≤ out.length + ((rec n (k - 1) x).length - j) := by
  intro m
  induction m with
  | zero => intro out j; exact ⟨out, j, rfl, by omega⟩
  | succ m ih =>
    intro out j
    rw [F_impl_configsOf_L2_s]
    by_cases h : (j : Int) < ((rec n (k - 1) x).length : Int)
    · rw [decide_eq_true h, cond_true]
      obtain ⟨out', j', h1, h2⟩ := ih (out ++ [[x] ++ (rec n (k - 1) x).getD j []]) (j + 1)
      refine ⟨out', j', h1, ?_⟩
      simp only [List.length_append, List.length_cons, List.length_nil] at h2
      omega
    · rw [decide_eq_false h, cond_false]
      exact ⟨out, j, rfl, by omega⟩
theorem cf_L1 (n k : Int) (rec : Int → Int → Int → List (List Int)) (B : Nat) : ∀ (m : Nat) (out : List (List Int)) (x : Int), (∀ y, x ≤ y → y < n → (rec n (k - 1) y).length ≤ B) →
    ∃ out' x', F_impl_configsOf_L1 n k rec m (out, x) = .next (out', x') ∧ out'.length ≤ out.length + (n - x).toNat * B := by
  intro m
  induction m with
  | zero => intro out x _; exact ⟨out, x, rfl, by omega⟩
  | succ m ih =>
    intro out x hB
    rw [F_impl_configsOf_L1_s]
    by_cases h : x < n
    · rw [decide_eq_true h, cond_true]
      obtain ⟨o1, j1, h1, h2⟩ := cf_L2 n k rec x ((rec n (k - 1) x).length - 0 + 1) out 0
      rw [h1]
      obtain ⟨out', x', h3, h4⟩ := ih o1 (x + 1) (fun y hy hyn => hB y (by omega) hyn)
      refine ⟨out', x', h3, ?_⟩
      have h5 := hB x (by omega) h
      have h6 : (n - x).toNat = (n - (x + 1)).toNat + 1 := by omega
      rw [h6, Nat.succ_mul]
      omega
    · rw [decide_eq_false h, cond_false]
      exact ⟨out, x, rfl, by omega⟩
theorem len_cf : ∀ (fuel : Nat) (n k src : Int), 0 ≤ k → k.toNat < fuel → 0 ≤ src → n ≤ 6 → (F_impl_configsOf_R fuel n k src).length ≤ 6 ^ k.toNat := by
  intro fuel
  induction fuel with
  | zero => intro n k src _ h; omega
  | succ m ih =>
    intro n k src hk hf hs hn
    rw [F_impl_configsOf_R_s]
    by_cases h : k = 0
    · rw [decide_eq_true h, cond_true]; subst h; simp
    · rw [decide_eq_false h, cond_false]
      obtain ⟨o, x, h1, h2⟩ := cf_L1 n k (F_impl_configsOf_R m) (6 ^ (k - 1).toNat) ((n - src).toNat + 1) [] src (fun y hy hyn => ih n (k - 1) y (by omega) (by omega) (by omega) hn)
      rw [h1]
      have h3 : k.toNat = (k - 1).toNat + 1 := by omega
      simp only [Ctl.elim, h3, Nat.pow_succ]
      have h4 : (n - src).toNat ≤ 6 := by omega
      have h5 := Nat.mul_le_mul_right (6 ^ (k - 1).toNat) h4
      simp only [List.length_nil] at h2
      omega
theorem len_configsOf (fuel : Nat) (n k src : Int) (hk : 0 ≤ k ∧ k ≤ 2) (hf : k.toNat < fuel) (hs : 0 ≤ src) (hn : n ≤ 6) : (F_impl_configsOf_R fuel n k src).length ≤ 36 := by
  have h := len_cf fuel n k src hk.1 hf hs hn
  have h2 : k.toNat ≤ 2 := by omega
  have h3 : 6 ^ k.toNat ≤ 6 ^ 2 := Nat.pow_le_pow_right (by decide) h2
  omega
/-- Each row of R has as many points as there are servers. -/
theorem row_L2 (n k : Int) (rec : Int → Int → Int → List (List Int)) (x : Int) (q : Nat) (hq : ∀ r ∈ rec n (k - 1) x, r.length = q) : ∀ (m : Nat) (out : List (List Int)) (j : Nat), (∀ r ∈ out, r.length = q + 1) →
    ∃ out' j', F_impl_configsOf_L2 n k rec x m (out, j) = .next (out', j') ∧ ∀ r ∈ out', r.length = q + 1 := by
  intro m
  induction m with
  | zero => intro out j h; exact ⟨out, j, rfl, h⟩
  | succ m ih =>
    intro out j ho
    rw [F_impl_configsOf_L2_s]
    by_cases h : (j : Int) < ((rec n (k - 1) x).length : Int)
    · rw [decide_eq_true h, cond_true]
      refine ih _ _ (fun r hr => ?_)
      rcases List.mem_append.1 hr with hr | hr
      · exact ho r hr
      · simp only [List.mem_singleton] at hr
        subst hr
        have hj : j < (rec n (k - 1) x).length := by omega
        have h1 : (rec n (k - 1) x).getD j [] = (rec n (k - 1) x)[j] := by simp [hj]
        rw [h1]
        have := hq _ (List.getElem_mem hj)
        simp [this]
    · rw [decide_eq_false h, cond_false]
      exact ⟨out, j, rfl, ho⟩
theorem row_L1 (n k : Int) (rec : Int → Int → Int → List (List Int)) (q : Nat) (hq : ∀ y, ∀ r ∈ rec n (k - 1) y, r.length = q) : ∀ (m : Nat) (out : List (List Int)) (x : Int), (∀ r ∈ out, r.length = q + 1) →
    ∃ out' x', F_impl_configsOf_L1 n k rec m (out, x) = .next (out', x') ∧ ∀ r ∈ out', r.length = q + 1 := by
  intro m
  induction m with
  | zero => intro out x h; exact ⟨out, x, rfl, h⟩
  | succ m ih =>
    intro out x ho
    rw [F_impl_configsOf_L1_s]
    by_cases h : x < n
    · rw [decide_eq_true h, cond_true]
      obtain ⟨o1, j1, h1, h2⟩ := row_L2 n k rec x q (hq x) ((rec n (k - 1) x).length - 0 + 1) out 0 ho
      rw [h1]
      exact ih o1 (x + 1) h2
    · rw [decide_eq_false h, cond_false]
      exact ⟨out, x, rfl, ho⟩
theorem row_cf : ∀ (fuel : Nat) (n k src : Int), 0 ≤ k → k.toNat < fuel → ∀ r ∈ F_impl_configsOf_R fuel n k src, r.length = k.toNat := by
  intro fuel
  induction fuel with
  | zero => intro n k src _ h; omega
  | succ m ih =>
    intro n k src hk hf
    rw [F_impl_configsOf_R_s]
    by_cases h : k = 0
    · rw [decide_eq_true h, cond_true]; subst h; simp
    · rw [decide_eq_false h, cond_false]
      obtain ⟨o, x, h1, h2⟩ := row_L1 n k (F_impl_configsOf_R m) (k - 1).toNat (fun y => ih n (k - 1) y (by omega) (by omega)) ((n - src).toNat + 1) [] src (by simp)
      rw [h1]
      intro r hr
      have := h2 r hr
      omega
theorem row_configsOf (fuel : Nat) (n k src : Int) (j : Nat) (hk : 0 ≤ k ∧ k ≤ 2) (hf : k.toNat < fuel) : ((F_impl_configsOf_R fuel n k src).getD j []).length ≤ 2 := by
  by_cases hj : j < (F_impl_configsOf_R fuel n k src).length
  · have h1 : (F_impl_configsOf_R fuel n k src).getD j [] = (F_impl_configsOf_R fuel n k src)[j] := by simp [hj]
    rw [h1, row_cf fuel n k src hk.1 hf _ (List.getElem_mem hj)]
    omega
  · have h1 : (F_impl_configsOf_R fuel n k src).getD j [] = [] := by simp [show (F_impl_configsOf_R fuel n k src).length ≤ j by omega]
    rw [h1]; simp
theorem total_le (q : Nat) : ∀ a : List (List Int), (∀ r ∈ a, r.length ≤ q) → total a ≤ a.length * q := by
  intro a
  induction a with
  | nil => intro _; simp [total]
  | cons r a ih =>
    intro h
    have h1 := ih (fun r hr => h r (by simp [hr]))
    have h2 := h r (by simp)
    simp only [total, List.map_cons, List.sum_cons, List.length_cons, Nat.succ_mul] at *
    omega
end Go.Proofs.Ytilmadapmcnlgaa
