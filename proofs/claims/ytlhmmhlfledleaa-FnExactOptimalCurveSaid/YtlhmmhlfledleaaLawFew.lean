/-
  Plain laws: the plan of the farthest has the fewest faults; the curve of the fewest faults. No condition.
-/
import Derived.Test.YtlhmmhlfledleaaLawOpt
namespace Go.Proofs.Ytlhmmhlfledleaa
open Go

/-- A list as a set. -/
def inL (l : List Int) : Int → Bool := fun x => decide (x ∈ l)
theorem inL_t {l : List Int} {x : Int} : inL l x = true ↔ x ∈ l := by simp [inL]
theorem inL_put {l : List Int} (h : Rise l) (p : Int) : inL (F_spec_l1Put l p) = padd (inL l) p := pext fun x => by rw [inL_t, padd_t, inL_t, (put_rise h p).2]
theorem inL_out (l : List Int) (f : Int) : inL (F_spec_l5Out l f) = pdel (inL l) f := pext fun x => by
  rw [inL_t, pdel_t, inL_t, l5Out_eq, List.mem_filter]
  simp [and_comm]
theorem card_inL {U : List Int} (hU : U.Nodup) : ∀ l : List Int, l.Nodup → (∀ x ∈ l, x ∈ U) → card U (inL l) = l.length
  | [], _, _ => by
    unfold card inL
    rw [List.countP_eq_zero.2 (fun a _ => by simp)]; rfl
  | a :: l, hn, h => by
    have h1 := List.nodup_cons.1 hn
    have e : inL (a :: l) = padd (inL l) a := pext fun x => by rw [inL_t, padd_t, inL_t, List.mem_cons]
    rw [e, card_add (by unfold inL; rw [decide_eq_false h1.1]) hU (h a (List.mem_cons_self ..)), card_inL hU l h1.2 (fun x hx => h x (List.mem_cons_of_mem _ hx)), List.length_cons]
theorem rel_self {l : List Int} (h : Rise l) : Rel l l := ⟨rise_nodup h, h, fun _ => Iff.rfl⟩
theorem put_len {l : List Int} (h : Rise l) {p : Int} (hp : p ∉ l) : (F_spec_l1Put l p).length = l.length + 1 := by
  rw [((rel_self h).put hp).len]; simp
theorem out_len {l : List Int} (h : Rise l) {f : Int} (hf : f ∈ l) : (F_spec_l5Out l f).length + 1 = l.length := by
  rw [l5Out_eq]; exact Rel.filter_len (rise_nodup h) hf
/-! the next use -/
theorem nxt_eq (p : Int) : ∀ (l : List Int) (u : Nat), u ≤ l.length → (∀ j, j < u → l.getD j 0 ≠ p) → (u < l.length → l.getD u 0 = p) → nxt p l = u
  | [], u, h, _, _ => by have : u = 0 := by simpa using h
                         subst this; rfl
  | x :: l, 0, _, _, h => by
    have : x = p := h (by simp)
    rw [nxt, if_pos this]
  | x :: l, u + 1, h, h1, h2 => by
    have h0 : x ≠ p := h1 0 (by omega)
    rw [nxt, if_neg h0, nxt_eq p l u (by simpa using h) (fun j hj => by have := h1 (j + 1) (by omega); simpa using this) (fun hu => by have := h2 (by simpa using hu); simpa using this)]
theorem nxt_use (reqs : List Int) (i : Nat) (hi : i < reqs.length) (p : Int) : F_spec_l5Use reqs (i : Int) p = (i : Int) + 1 + nxt p (reqs.drop (i + 1)) := by
  obtain ⟨u, h1, h2, h3, h4, h5, _⟩ := use_spec reqs i hi p
  have hg : ∀ j, j < reqs.length - (i + 1) → (reqs.drop (i + 1)).getD j 0 = reqs.getD (i + 1 + j) 0 := fun j hj => by
    rw [getD_lt _ j 0 (by simp; omega), getD_lt reqs _ 0 (by omega), List.getElem_drop]
  rw [h1, nxt_eq p (reqs.drop (i + 1)) (u - (i + 1)) (by simp; omega) (fun j hj => by rw [hg j (by omega)]; exact h4 _ (by omega) (by omega)) (fun h => by
    have h' : u - (i + 1) < reqs.length - (i + 1) := by simpa using h
    rw [hg _ h', show i + 1 + (u - (i + 1)) = u by omega]; exact h5 (by omega))]
  omega
theorem far_max_L1 (reqs : List Int) (at_ : Int) (now : List Int) : ∀ (fuel q : Nat) (b : Int), now.length - q < fuel → (∀ p, p < q → F_spec_l5Use reqs at_ (now.getD p 0) ≤ F_spec_l5Use reqs at_ b) →
    ∃ b' q', F_spec_l5Farthest_L1 reqs at_ now fuel (b, q) = .next (b', q') ∧ ∀ p, p < now.length → F_spec_l5Use reqs at_ (now.getD p 0) ≤ F_spec_l5Use reqs at_ b' := by
  intro fuel
  induction fuel with
  | zero => intro q b h; omega
  | succ mf ih =>
    intro q b h hb
    rw [F_spec_l5Farthest_L1_s]
    by_cases hq : q < now.length
    · rw [decide_eq_true (show (q : Int) < (now.length : Int) by omega), cond_true]
      by_cases hlt : F_spec_l5Use reqs at_ b < F_spec_l5Use reqs at_ (now.getD q 0)
      · rw [decide_eq_true hlt, cond_true]
        refine ih (q + 1) _ (by omega) fun p hp => ?_
        rcases Nat.lt_or_eq_of_le (Nat.le_of_lt_succ hp) with h1 | h1
        · have := hb p h1; omega
        · rw [h1]; exact Int.le_refl _
      · rw [decide_eq_false hlt, cond_false]
        refine ih (q + 1) _ (by omega) fun p hp => ?_
        rcases Nat.lt_or_eq_of_le (Nat.le_of_lt_succ hp) with h1 | h1
        · exact hb p h1
        · rw [h1]; omega
    · rw [decide_eq_false (show ¬ (q : Int) < (now.length : Int) by omega), cond_false]
      exact ⟨b, q, rfl, fun p hp => hb p (by omega)⟩
theorem far_max (reqs : List Int) (at_ : Int) {now : List Int} (hn : 1 ≤ now.length) {z : Int} (hz : z ∈ now) : F_spec_l5Use reqs at_ z ≤ F_spec_l5Use reqs at_ (F_spec_l5Farthest reqs at_ now) := by
  unfold F_spec_l5Farthest
  obtain ⟨b', q', h1, h2⟩ := far_max_L1 reqs at_ now (now.length - 1 + 1) 1 (now.getD 0 0) (by omega) (fun p hp => by
    have : p = 0 := by omega
    subst this; exact Int.le_refl _)
  rw [h1, elim_next]
  obtain ⟨p, hp, rfl⟩ := mem_getD.1 hz
  exact h2 p hp
/-! the plan of the farthest, step by step -/
def farStep (k : Int) (reqs : List Int) (i : Nat) (now : List Int) : Int × List Int :=
  bif ((!(F_spec_l1Has now (reqs.getD i 0))) && (decide ((now.length : Int) = k))) then (F_spec_l5Farthest reqs (i : Int) now, F_spec_l1Put (F_spec_l5Out now (F_spec_l5Farthest reqs (i : Int) now)) (reqs.getD i 0)) else (-1, F_spec_l1Put now (reqs.getD i 0))
def farNow (k : Int) (reqs : List Int) : Nat → List Int
  | 0 => []
  | i + 1 => (farStep k reqs i (farNow k reqs i)).2
def farOut (k : Int) (reqs : List Int) (i : Nat) : Int := (farStep k reqs i (farNow k reqs i)).1
theorem farPlan_L1_out (k : Int) (reqs : List Int) : ∀ (fuel i : Nat), reqs.length - i < fuel → i ≤ reqs.length → ∃ x y, F_spec_l5FarPlan_L1 k reqs fuel ((List.range i).map (farOut k reqs), farNow k reqs i, i) = .next ((List.range reqs.length).map (farOut k reqs), x, y) := by
  intro fuel
  induction fuel with
  | zero => intro i h; omega
  | succ mf ih =>
    intro i h hi
    rw [F_spec_l5FarPlan_L1_s]
    by_cases hlt : i < reqs.length
    · rw [decide_eq_true (show (i : Int) < (reqs.length : Int) by omega), cond_true]
      obtain ⟨x, y, e⟩ := ih (i + 1) (by omega) (by omega)
      refine ⟨x, y, ?_⟩
      rw [← e, List.range_succ, List.map_append]
      simp only [List.map_cons, List.map_nil, farNow, farOut]
      unfold farStep
      cases ((!(F_spec_l1Has (farNow k reqs i) (reqs.getD i 0))) && (decide (((farNow k reqs i).length : Int) = k))) <;> rfl
    · rw [decide_eq_false (show ¬ (i : Int) < (reqs.length : Int) by omega), cond_false]
      obtain rfl : i = reqs.length := by omega
      exact ⟨_, _, rfl⟩
theorem farPlan_out (k : Int) (reqs : List Int) : F_spec_l5FarPlan k reqs = (List.range reqs.length).map (farOut k reqs) := by
  unfold F_spec_l5FarPlan
  obtain ⟨x, y, e⟩ := farPlan_L1_out k reqs (reqs.length - 0 + 1) 0 (by omega) (by omega)
  have e' : F_spec_l5FarPlan_L1 k reqs (reqs.length - 0 + 1) ([], [], 0) = .next ((List.range reqs.length).map (farOut k reqs), x, y) := e
  rw [e']; rfl
/-- What is true of the pages on the way. -/
structure FarInv (k : Nat) (n : Int) (now : List Int) : Prop where
  up : Rise now
  len : now.length ≤ k
  pg : ∀ v ∈ now, v ∈ pages n
theorem run_far {k : Nat} (hk : 1 ≤ k) {n : Int} {reqs plan : List Int} (hr : ∀ i, i < reqs.length → 0 ≤ reqs.getD i 0 ∧ reqs.getD i 0 < n) (hp : ∀ i, i < reqs.length → plan.getD i 0 = farOut (k : Int) reqs i) :
    ∀ (fuel i faults : Nat) (out : List (List Int)), reqs.length - i < fuel → i ≤ reqs.length → FarInv k n (farNow (k : Int) reqs i) →
      ∃ s v, F_spec_l5Run_L1 (k : Int) reqs plan fuel (out, faults, farNow (k : Int) reqs i, i) = .next s ∧ s.2.1 = faults + v ∧ Cost k (pages n) (reqs.drop i) (inL (farNow (k : Int) reqs i)) v ∧ ∀ c, Cost k (pages n) (reqs.drop i) (inL (farNow (k : Int) reqs i)) c → v ≤ c := by
  intro fuel
  have hU := pages_nodup n
  induction fuel with
  | zero => intro i faults out h; omega
  | succ mf ih =>
    intro i faults out h hi hI
    rw [F_spec_l5Run_L1_s]
    by_cases hlt : i < reqs.length
    · have hp1 := hp i hlt
      have hri := hr i hlt
      have hrU : reqs.getD i 0 ∈ pages n := (pages_mem n _).2 hri
      have hdrop : reqs.drop i = reqs.getD i 0 :: reqs.drop (i + 1) := by rw [List.drop_eq_getElem_cons hlt, getD_lt reqs i 0 hlt]
      have hrest : ∀ r ∈ reqs.drop (i + 1), r ∈ pages n := fun r hm => by
        obtain ⟨j, hj, rfl⟩ := mem_getD.1 (List.mem_of_mem_drop hm)
        exact (pages_mem n _).2 (hr j hj)
      have hcard := card_inL hU (farNow (k : Int) reqs i) (rise_nodup hI.up) hI.pg
      rw [decide_eq_true (show (i : Int) < (reqs.length : Int) by omega), cond_true, hdrop]
      have hnow : farNow (k : Int) reqs (i + 1) = (farStep (k : Int) reqs i (farNow (k : Int) reqs i)).2 := rfl
      have hout : farOut (k : Int) reqs i = (farStep (k : Int) reqs i (farNow (k : Int) reqs i)).1 := rfl
      have hlen := hI.len
      generalize hN : farNow (k : Int) reqs i = now at *
      by_cases hm : reqs.getD i 0 ∈ now
      · -- a hit
        have hst : farStep (k : Int) reqs i now = (-1, now) := by
          unfold farStep
          rw [has_eq, decide_eq_true hm, Bool.not_true, Bool.false_and, cond_false, put_mem hI.up hm]
        rw [hst] at hnow hout
        rw [hp1, hout, decide_eq_false (show ¬ (0 : Int) ≤ -1 by omega), cond_false, has_eq, decide_eq_true hm, Bool.not_true, cond_false, decide_eq_false (by omega), cond_false]
        obtain ⟨s, v, e1, e2, e3, e4⟩ := ih (i + 1) faults (out ++ [now]) (by omega) (by omega) (by rw [hnow]; exact hI)
        rw [hnow] at e1 e3 e4
        refine ⟨s, v, e1, e2, .inl ⟨inL_t.2 hm, e3⟩, fun c hc => ?_⟩
        rcases hc with ⟨_, hc⟩ | ⟨hc, _⟩
        · exact e4 c hc
        · rw [inL_t.2 hm] at hc; cases hc
      · have hS : inL now (reqs.getD i 0) = false := by unfold inL; rw [decide_eq_false hm]
        by_cases hl : now.length = k
        · -- a fault without room
          have hn1 : 1 ≤ now.length := by omega
          have hfm := far_mem reqs (i : Int) now hn1
          have hfx := fun z hz => far_max reqs (i : Int) hn1 (z := z) hz
          have hst : farStep (k : Int) reqs i now = (F_spec_l5Farthest reqs (i : Int) now, F_spec_l1Put (F_spec_l5Out now (F_spec_l5Farthest reqs (i : Int) now)) (reqs.getD i 0)) := by
            unfold farStep
            rw [has_eq, decide_eq_false hm, Bool.not_false, Bool.true_and, decide_eq_true (by omega), cond_true]
          rw [hst] at hnow hout
          dsimp only at hnow hout
          generalize F_spec_l5Farthest reqs (i : Int) now = f at *
          have hfU := hI.pg f hfm
          have hf0 := ((pages_mem n f).1 hfU).1
          have hou := out_rise' hI.up f
          have hmo : reqs.getD i 0 ∉ F_spec_l5Out now f := fun hh => by rw [l5Out_eq] at hh; exact hm (List.mem_filter.1 hh).1
          have hzl : (F_spec_l1Put (F_spec_l5Out now f) (reqs.getD i 0)).length = now.length := by
            rw [put_len hou hmo]; exact out_len hI.up hfm
          rw [hp1, hout, decide_eq_true hf0, cond_true, has_eq, has_eq, decide_eq_false hm, decide_eq_true hfm, Bool.not_true, Bool.or_self, cond_false, Bool.not_false, cond_true, decide_eq_false (by omega), cond_false]
          obtain ⟨s, v, e1, e2, e3, e4⟩ := ih (i + 1) (faults + 1) (out ++ [F_spec_l1Put (F_spec_l5Out now f) (reqs.getD i 0)]) (by omega) (by omega) (by
            rw [hnow]
            refine ⟨(put_rise hou _).1, by omega, fun w hw => ?_⟩
            rcases ((put_rise hou _).2 w).1 hw with rfl | hw
            · exact hrU
            · rw [l5Out_eq] at hw; exact hI.pg w (List.mem_filter.1 hw).1)
          rw [hnow] at e1 e3 e4
          rw [inL_put hou, inL_out] at e3 e4
          refine ⟨s, v + 1, e1, by omega, .inr ⟨hS, v, rfl, .inr ⟨f, hfU, inL_t.2 hfm, e3⟩⟩, fun c hc => ?_⟩
          obtain ⟨c', h1, h2⟩ := cost_far hU hrest hrU hS (by rw [hcard]; exact hl) hfU (inL_t.2 hfm) (fun z hz => by
            have := hfx z (inL_t.1 hz)
            rw [nxt_use reqs i hlt, nxt_use reqs i hlt] at this
            omega) hc
          have := e4 c' h2
          omega
        · -- a fault with room
          have hst : farStep (k : Int) reqs i now = (-1, F_spec_l1Put now (reqs.getD i 0)) := by
            unfold farStep
            rw [has_eq, decide_eq_false hm, Bool.not_false, Bool.true_and, decide_eq_false (by omega), cond_false]
          rw [hst] at hnow hout
          dsimp only at hnow hout
          have hzl := put_len hI.up hm
          rw [hp1, hout, decide_eq_false (show ¬ (0 : Int) ≤ -1 by omega), cond_false, has_eq, decide_eq_false hm, Bool.not_false, cond_true, decide_eq_false (by omega), cond_false]
          obtain ⟨s, v, e1, e2, e3, e4⟩ := ih (i + 1) (faults + 1) (out ++ [F_spec_l1Put now (reqs.getD i 0)]) (by omega) (by omega) (by
            rw [hnow]
            refine ⟨(put_rise hI.up _).1, by omega, fun w hw => ?_⟩
            rcases ((put_rise hI.up _).2 w).1 hw with rfl | hw
            · exact hrU
            · exact hI.pg w hw)
          rw [hnow] at e1 e3 e4
          rw [inL_put hI.up] at e3 e4
          refine ⟨s, v + 1, e1, by omega, .inr ⟨hS, v, rfl, .inl ⟨by rw [hcard]; omega, e3⟩⟩, fun c hc => ?_⟩
          obtain ⟨c', h1, h2⟩ := cost_room hU hrest hrU hS (by rw [hcard]; omega) hc
          have := e4 c' h2
          omega
    · rw [decide_eq_false (show ¬ (i : Int) < (reqs.length : Int) by omega), cond_false]
      obtain rfl : i = reqs.length := by omega
      rw [List.drop_length]
      exact ⟨_, 0, rfl, rfl, rfl, fun c _ => Nat.zero_le _⟩
where
  out_rise' {l : List Int} (h : Rise l) (x : Int) : Rise (F_spec_l5Out l x) := by
    rw [l5Out_eq]; exact List.Pairwise.sublist List.filter_sublist h
theorem fewest_eq {k n : Int} {reqs : List Int} (hk : 1 ≤ k) (hn : 1 ≤ n ∧ n ≤ 8) (hr : ∀ i, i < reqs.length → 0 ≤ reqs.getD i 0 ∧ reqs.getD i 0 < n) : F_impl_fewestFaults k reqs = F_spec_l5Opt k n reqs := by
  obtain ⟨m, rfl⟩ : ∃ m : Nat, k = m := ⟨k.toNat, by omega⟩
  have hm : 1 ≤ m := by omega
  unfold F_impl_fewestFaults F_spec_l5Opt
  rw [farPlan_eq hk, played_eq (by omega) (nonneg_of hr)]
  have h2 := (fewest_both m (n := n) reqs).2.2 hm hn hr
  have hpw := (pw_bd (n := n) (by omega)).1
  have e0 : setOf 0 = inL [] := by
    funext x; unfold setOf inL; simp
  obtain ⟨w, k1, k2, k3⟩ := h2 0 (by omega) (by
    rw [e0]
    have := card_inL (pages_nodup n) [] List.nodup_nil (fun x hx => by cases hx)
    rw [this]; exact Nat.zero_le _)
  obtain ⟨s, v, e1, e2, e3, e4⟩ := run_far hm hr (plan := F_spec_l5FarPlan (m : Int) reqs) (fun i hi => by
    rw [farPlan_out]; simp [List.getD, hi]) (reqs.length - 0 + 1) 0 0 [] (by omega) (by omega) ⟨.nil, by simp [farNow], fun v hv => by cases hv⟩
  have e1' : F_spec_l5Run_L1 (m : Int) reqs (F_spec_l5FarPlan (m : Int) reqs) (reqs.length - 0 + 1) ([], 0, [], 0) = .next s := e1
  have e3' : Cost m (pages n) (reqs.drop 0) (inL []) v := e3
  have e4' : ∀ c, Cost m (pages n) (reqs.drop 0) (inL []) c → v ≤ c := e4
  rw [e0] at k2 k3
  have : v = w := Nat.le_antisymm (e4' w k2) (k3 v e3')
  unfold F_spec_l5Run
  rw [e1']
  obtain ⟨s1, s2, s3, s4⟩ := s
  show ((s2 : Nat) : Int) = _
  rw [k1]
  simp only [Nat.zero_add] at e2
  rw [e2, this]
theorem fewestFaults_eq (k n : Int) (reqs : List Int) : F_impl_FewestFaults k n reqs = F_spec_FewestFaults k n reqs := by
  unfold F_impl_FewestFaults F_spec_FewestFaults
  rw [paging_eq]
  cases hb : F_spec_l5Takes k n reqs with
  | false => rfl
  | true =>
    have ht := l5Takes_t hb
    rw [Bool.not_true, cond_false, cond_false, fewest_eq ht.1.1 ht.2.1 ht.2.2.2]
theorem law_FewestFaults (k n : Int) (reqs : List Int) : F_laws_FnExactFewestFaults k n reqs = true := by
  unfold F_laws_FnExactFewestFaults
  simp only [toIntS_eq, fewestFaults_eq, eqIntS_refl]
  simp
theorem curve_L1 {n : Int} {reqs : List Int} (hn : 1 ≤ n ∧ n ≤ 8) (hr : ∀ i, i < reqs.length → 0 ≤ reqs.getD i 0 ∧ reqs.getD i 0 < n) : ∀ (fuel q : Nat) (out : List Int), 1 ≤ q →
    (F_impl_OptimalCurve_L1 reqs fuel (out, q)).elim (fun s => (s.1, true)) (fun r => r) = (F_spec_OptimalCurve_L1 n reqs fuel (out, q)).elim (fun s => (s.1, true)) (fun r => r) := by
  intro fuel
  induction fuel with
  | zero => intro q out _; rfl
  | succ mf ih =>
    intro q out hq
    rw [F_impl_OptimalCurve_L1_s, F_spec_OptimalCurve_L1_s]
    cases decide ((q : Int) ≤ 6) with
    | true => rw [cond_true, cond_true, fewest_eq (by omega) hn hr]; exact ih (q + 1) _ (by omega)
    | false => rfl
theorem optimalCurve_eq (n : Int) (reqs : List Int) : F_impl_OptimalCurve n reqs = F_spec_OptimalCurve n reqs := by
  unfold F_impl_OptimalCurve F_spec_OptimalCurve
  rw [requests_eq]
  cases hb : F_spec_l3Good n reqs with
  | false => rfl
  | true =>
    have ht := l3Good_t hb
    rw [Bool.not_true, cond_false, cond_false]
    exact curve_L1 ht.1 ht.2.2 (7 - 1 + 1) 1 [] (by omega)
theorem curve_len_L1 (reqs : List Int) : ∀ (fuel q : Nat) (out : List Int), out.length ≤ q → q ≤ 7 → ((F_impl_OptimalCurve_L1 reqs fuel (out, q)).elim (fun s => (s.1, true)) (fun r => r)).1.length ≤ 7 ∨ ∃ r, F_impl_OptimalCurve_L1 reqs fuel (out, q) = .ret r := by
  intro fuel
  induction fuel with
  | zero => intro q out h1 h2; left; show out.length ≤ 7; omega
  | succ mf ih =>
    intro q out h1 h2
    rw [F_impl_OptimalCurve_L1_s]
    by_cases hq : (q : Int) ≤ 6
    · rw [decide_eq_true hq, cond_true]; exact ih (q + 1) _ (by simp; omega) (by omega)
    · rw [decide_eq_false hq, cond_false]; left; show out.length ≤ 7; omega
theorem curve_noret (reqs : List Int) : ∀ (fuel q : Nat) (out : List Int) (r : List Int × Bool), F_impl_OptimalCurve_L1 reqs fuel (out, q) ≠ .ret r := by
  intro fuel
  induction fuel with
  | zero => intro q out r h; cases h
  | succ mf ih =>
    intro q out r
    rw [F_impl_OptimalCurve_L1_s]
    cases decide ((q : Int) ≤ 6) with
    | true => exact ih _ _ r
    | false => intro h; cases h
theorem optimalCurve_len (n : Int) (reqs : List Int) : (F_impl_OptimalCurve n reqs).1.length ≤ 7 := by
  unfold F_impl_OptimalCurve
  cases F_impl_IsRequests n reqs with
  | false => simp
  | true =>
    rw [Bool.not_true, cond_false]
    rcases curve_len_L1 reqs (7 - 1 + 1) 1 [] (by simp) (by omega) with h | ⟨r, h⟩
    · exact h
    · exact absurd h (curve_noret _ _ _ _ _)
theorem law_OptimalCurve (n : Int) (reqs : List Int) : F_laws_FnExactOptimalCurve n reqs = true := by
  unfold F_laws_FnExactOptimalCurve
  simp only [toIntS_eq, optimalCurve_eq, eqIntS_refl, markIntS_eq, heldIntS_iota]
  have h1 : ¬ ((1 : Int) + (reqs.length : Int) < 0) := by omega
  have h2 : ¬ ((1 : Int) + ((F_spec_OptimalCurve n reqs).1.length : Int) < 0) := by omega
  simp [h1, h2]
/-! what the walks ask -/
theorem farthestPlan_ln {k : Int} (hk : 1 ≤ k) (reqs : List Int) : (F_impl_farthestPlan k reqs).length = reqs.length := by
  rw [farPlan_eq hk, farPlan_out]; simp
theorem fewest_len (k : Int) {n : Int} {reqs : List Int} (hn : 1 ≤ n ∧ n ≤ 8) (_ : reqs.length ≤ 60) (_ : ∀ i, i < reqs.length → 0 ≤ reqs.getD i 0 ∧ reqs.getD i 0 < n) (hk : 0 ≤ k) : (F_spec_l5Fewest k n reqs).length = reqs.length + 1 ∧ 1 ≤ ((F_spec_l5Fewest k n reqs).getD 0 []).length := by
  obtain ⟨m, rfl⟩ : ∃ m : Nat, k = m := ⟨k.toNat, by omega⟩
  have h := fewest_both m (n := n) reqs
  have hpw := (pw_bd (n := n) (by omega)).1
  exact ⟨h.1, by rw [h.2.1]; omega⟩
end Go.Proofs.Ytlhmmhlfledleaa
