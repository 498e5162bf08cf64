/-
  Plain laws on shortest ways. No condition.
-/
import Derived.Test.YtfhhfhiooehlcaaLawClose
namespace Go.Proofs.Ytfhhfhiooehlcaa

abbrev dl (m : List (List Int)) (x y : Nat) : Int := stages (D0 m) m.length x y
theorem dl_tri {m : List (List Int)} (hT : TabP true m) (x y z : Nat) (hy : y < m.length) : dl m x z ≤ dl m x y + dl m y z := stages_tri (D0_pos m) (D0_diag hT) m.length y x z hy
theorem dl_self {m : List (List Int)} (hT : TabP true m) (x : Nat) : dl m x x = 0 := stages_diag (D0_pos m) (D0_diag hT) m.length x
theorem dl_pos (m : List (List Int)) (x y : Nat) : 0 ≤ dl m x y := stages_pos (D0_pos m) m.length x y
theorem dl_fin {m : List (List Int)} (hT : TabP true m) (x y : Nat) : dl m x y = 1073741824 ∨ dl m x y ≤ 6336 := by
  rcases stages_fin hT.tab m.length hT.n6 x y with h | h
  · exact .inl h
  · exact .inr h.2
theorem dl_edge {m : List (List Int)} (x y : Nat) (h : 0 ≤ el m x y) : dl m x y ≤ el m x y := by
  have h1 : dl m x y ≤ D0 m x y := stages_le (D := D0 m) m.length x y
  have h2 : D0 m x y = el m x y := if_neg (by omega)
  omega
/-- The next point of a shortest way. -/
def tgt (m : List (List Int)) (x y z : Nat) : Prop := z ≠ x ∧ 0 < el m x z ∧ el m x z + dl m z y = dl m x y
theorem tgt_ex {m : List (List Int)} (hT : TabP true m) {x y : Nat} (hx : x < m.length) (hy : y < m.length) (hne : x ≠ y) (hf : dl m x y < 1073741824) : ∃ z, z < m.length ∧ tgt m x y z := by
  obtain ⟨z, h1, h2, h3, h4⟩ := stages_first (F := 1073741824) m.length (D0_pos m) (D0_diag hT) m.length (Nat.le_refl _) x y hx hy hne hf
  have h5 : 0 ≤ el m x z := by
    refine Classical.byContradiction fun hh => ?_
    have : D0 m x z = 1073741824 := if_pos (by omega)
    omega
  have h6 : D0 m x z = el m x z := if_neg (by omega)
  have h7 := hT.ok x z hx h1
  have h8 : 0 < el m x z := by
    rcases h7.2.2 (Ne.symm h2) with h | ⟨_, h⟩ <;> omega
  refine ⟨z, h1, h2, h8, ?_⟩
  have h9 := dl_tri hT x z y h1
  have h10 := dl_edge (m := m) x z h5
  have h11 : D0 m x z + dl m z y ≤ dl m x y := h4
  omega
theorem least_of {p : Nat → Prop} (h : ∃ z, p z) : ∃ z, p z ∧ ∀ w, w < z → ¬ p w := by
  obtain ⟨z, hz⟩ := h
  induction z using Nat.strongRecOn with
  | ind z ih =>
    by_cases hw : ∃ w, w < z ∧ p w
    · obtain ⟨w, h1, h2⟩ := hw; exact ih w h1 h2
    · exact ⟨z, hz, fun w h1 h2 => hw ⟨w, h1, h2⟩⟩
/-- The way that is taken. -/
inductive Gw (m : List (List Int)) (y : Nat) : Nat → List Int → Prop
  | nil : Gw m y y []
  | cons {x z : Nat} {l : List Int} (hne : x ≠ y) (hz : z < m.length) (ht : tgt m x y z) (hf : ∀ w, w < z → ¬ (w < m.length ∧ tgt m x y w)) (hl : Gw m y z l) : Gw m y x ((z : Int) :: l)
theorem gw_ex {m : List (List Int)} (hT : TabP true m) {y : Nat} (hy : y < m.length) : ∀ (k x : Nat), x < m.length → dl m x y < 1073741824 → (dl m x y).toNat < k → ∃ l, Gw m y x l ∧ (l.length : Int) ≤ dl m x y := by
  intro k
  induction k with
  | zero => intro x _ _ h; omega
  | succ k ih =>
    intro x hx hf hk
    by_cases e : x = y
    · subst e; exact ⟨[], .nil, by simpa using dl_pos m x x⟩
    · obtain ⟨z, ⟨h1, h2⟩, h3⟩ := least_of (tgt_ex hT hx hy e hf)
      have h0 := dl_pos m z y
      obtain ⟨l, h4, h5⟩ := ih z h1 (by have := h2.2; omega) (by have := h2.2; omega)
      refine ⟨_, .cons e h1 h2 h3 h4, ?_⟩
      have := h2.2
      simp only [List.length_cons]
      omega

/-! the program's way -/
theorem way_L2 {m : List (List Int)} (hT : TabP true m) {x y z : Nat} (hx : x < m.length) (hy : y < m.length) (hz : z < m.length) (ht : tgt m x y z) (hf : ∀ w, w < z → ¬ (w < m.length ∧ tgt m x y w)) : ∀ fuel k, m.length - k < fuel → k ≤ z →
    F_impl_ShortestWay_L2 m (y : Int) (x : Int) fuel ((x : Int), k) = .next ((z : Int), z) := by
  obtain ⟨_, hc⟩ := closed_el hT
  intro fuel
  induction fuel with
  | zero => intro k h; omega
  | succ mf ih =>
    intro k h hk
    have hkn : k < m.length := by omega
    have hrx : (m.getD ((x : Int)).toNat []).length = m.length := by simpa using hT.rows x hx
    rw [F_impl_ShortestWay_L2_s, hrx, decide_eq_true (show (k : Int) < (m.length : Int) by omega), cond_true]
    simp only [Int.toNat_natCast]
    have hb : (((!decide ((k : Int) = (x : Int))) && (decide (0 < el m x k))) && (decide (el m x k + el (F_impl_Metric_closed m) k y = el (F_impl_Metric_closed m) x y))) = true ↔ tgt m x y k := by
      rw [hc k y hkn hy, hc x y hx hy]
      simp only [Bool.and_eq_true, Bool.not_eq_true', decide_eq_false_iff_not, decide_eq_true_eq, tgt]
      constructor
      · rintro ⟨⟨h1, h2⟩, h3⟩; exact ⟨by omega, h2, h3⟩
      · rintro ⟨h1, h2, h3⟩; exact ⟨⟨by omega, h2⟩, h3⟩
    unfold el at hb
    rcases Nat.lt_or_eq_of_le hk with h1 | h1
    · rw [Bool.eq_false_iff.2 (fun hh => hf k h1 ⟨hkn, hb.1 hh⟩), cond_false]
      exact ih (k + 1) (by omega) h1
    · subst h1
      rw [hb.2 ht, cond_true]
theorem way_L1 {m : List (List Int)} (hT : TabP true m) {y : Nat} (hy : y < m.length) {x : Nat} {l : List Int} (h : Gw m y x l) : x < m.length → ∀ fuel out, (dl m x y).toNat < fuel →
    F_impl_ShortestWay_L1 m (y : Int) fuel ((x : Int), out) = .next ((y : Int), out ++ l) := by
  induction h with
  | nil =>
    intro _ fuel out hf
    obtain ⟨mf, rfl⟩ : ∃ mf, fuel = mf + 1 := ⟨fuel - 1, by omega⟩
    rw [F_impl_ShortestWay_L1_s]; simp
  | @cons x z l hne hz ht hmin hl ih =>
    intro hx fuel out hf
    obtain ⟨mf, rfl⟩ : ∃ mf, fuel = mf + 1 := ⟨fuel - 1, by omega⟩
    have hrx : (m.getD ((x : Int)).toNat []).length = m.length := by simpa using hT.rows x hx
    rw [F_impl_ShortestWay_L1_s, decide_eq_false (show ¬ (x : Int) = (y : Int) by omega), hrx, Bool.not_false, cond_true, way_L2 hT hx hy hz ht hmin _ 0 (by omega) (by omega)]
    simp only [elim_next]
    have h0 := dl_pos m z y
    rw [ih hz mf _ (by have := ht.2; omega)]
    simp

/-! the reference's way -/
structure Smp (n : Nat) (b : List Int) : Prop where
  n1 : 1 ≤ b.length
  nd : b.Nodup
  el : ∀ v ∈ b, 0 ≤ v ∧ v < n
theorem nodup_len : ∀ (n : Nat) (b : List Int), b.Nodup → (∀ v ∈ b, 0 ≤ v ∧ v < n) → b.length ≤ n
  | 0, b, _, h => by
    cases b with
    | nil => simp
    | cons v t => have := h v (by simp); omega
  | n + 1, b, hn, h => by
    by_cases hm : (n : Int) ∈ b
    · have h1 := nodup_len n (b.erase (n : Int)) (hn.erase _) (fun v hv => by
        have h2 := (hn.mem_erase_iff).1 hv
        have h3 := h v h2.2
        have h4 := h2.1
        omega)
      rw [List.length_erase_of_mem hm] at h1
      omega
    · have := nodup_len n b hn (fun v hv => by
        have h3 := h v hv
        have : v ≠ (n : Int) := fun e => hm (e ▸ hv)
        omega)
      omega
theorem Smp.len {n : Nat} {b : List Int} (h : Smp n b) : b.length ≤ n := nodup_len n b h.nd h.el
theorem has_mem {l : List Int} {v : Int} : F_spec_l1Has l v = true ↔ v ∈ l := by
  rw [l1Has_iff]
  constructor
  · rintro ⟨i, hi, rfl⟩; exact getD_mem l i 0 hi
  · intro h
    obtain ⟨i, hi, rfl⟩ := List.getElem_of_mem h
    exact ⟨i, hi, getD_lt l i 0 hi⟩
theorem has_false {l : List Int} {v : Int} (h : ∀ i, i < l.length → l.getD i 0 ≠ v) : F_spec_l1Has l v = false := by
  rw [Bool.eq_false_iff]; intro hh
  obtain ⟨i, hi, he⟩ := (l1Has_iff l v).1 hh
  exact h i hi he
theorem Smp.push {n : Nat} {b : List Int} (h : Smp n b) {k : Nat} (hk : k < n) (hn : F_spec_l1Has b (k : Int) = false) : Smp n (([] ++ b) ++ [(k : Int)]) := by
  have hn' : (k : Int) ∉ b := fun hh => by rw [has_mem.2 hh] at hn; cases hn
  refine ⟨by simp, ?_, fun v hv => ?_⟩
  · rw [List.nil_append, List.nodup_append]
    refine ⟨h.nd, by simp, fun a ha c hc => ?_⟩
    rw [List.mem_singleton.1 hc]
    exact fun e => hn' (e ▸ ha)
  · rcases List.mem_append.1 hv with hv | hv
    · exact h.el v hv
    · rw [List.mem_singleton.1 hv]; omega
theorem last_push (b : List Int) (k : Int) : ((([] ++ b) ++ [k]).getD (((([] ++ b) ++ [k]).length : Int) - 1).toNat 0) = k := by
  have e : (((([] : List Int) ++ b ++ [k]).length : Int) - 1).toNat = b.length := by simp
  rw [e]
  simp
abbrev lastOf (b : List Int) : Int := b.getD ((b.length : Int) - 1).toNat 0
theorem Smp.last {n : Nat} {b : List Int} (h : Smp n b) : 0 ≤ lastOf b ∧ lastOf b < n ∧ lastOf b ∈ b := by
  have := h.n1
  have hm := getD_mem b ((b.length : Int) - 1).toNat 0 (by omega)
  exact ⟨(h.el _ hm).1, (h.el _ hm).2, hm⟩
/-- Nothing that is found is shorter than the shortest way. -/
theorem ways_ge {m : List (List Int)} (hT : TabP true m) {y : Nat} (hy : y < m.length) : ∀ fuel begun sum, Smp m.length begun → m.length + 1 ≤ fuel + begun.length → 0 ≤ sum →
    (0 ≤ (F_spec_l6Ways_R fuel m begun sum (y : Int)).2 → sum + dl m (lastOf begun).toNat y ≤ (F_spec_l6Ways_R fuel m begun sum (y : Int)).2 ∧ dl m (lastOf begun).toNat y < 1073741824) ∧
    ((F_spec_l6Ways_R fuel m begun sum (y : Int)).2 < 0 → (F_spec_l6Ways_R fuel m begun sum (y : Int)).1 = []) := by
  intro fuel
  induction fuel with
  | zero => intro begun sum hs hf; have := hs.len; omega
  | succ mr ih =>
    intro begun sum hs hf h0
    obtain ⟨l1, l2, l3⟩ := hs.last
    obtain ⟨x, hxl⟩ : ∃ x : Nat, lastOf begun = (x : Int) := ⟨(lastOf begun).toNat, by omega⟩
    have hxt : (List.getD begun (((begun.length : Int) - 1).toNat) 0).toNat = x := by show (lastOf begun).toNat = x; omega
    rw [F_spec_l6Ways_R_s, show (lastOf begun).toNat = x from hxt]
    by_cases e : lastOf begun = (y : Int)
    · rw [decide_eq_true e, cond_true]
      have h1 := dl_self hT y
      obtain rfl : x = y := by omega
      exact ⟨fun _ => by omega, fun h => by omega⟩
    · rw [decide_eq_false e, cond_false]
      have key : ∀ fu k best least, m.length - k < fu → ((least < 0 ∧ best = []) ∨ (0 ≤ least ∧ sum + dl m x y ≤ least ∧ dl m x y < 1073741824)) →
          ∃ b' l' k', F_spec_l6Ways_L1 m begun sum (y : Int) (F_spec_l6Ways_R mr) fu (best, least, k) = .next (b', l', k') ∧ ((l' < 0 ∧ b' = []) ∨ (0 ≤ l' ∧ sum + dl m x y ≤ l' ∧ dl m x y < 1073741824)) := by
        intro fu
        induction fu with
        | zero => intro k best least h; omega
        | succ mf ihf =>
          intro k best least h hinv
          rw [F_spec_l6Ways_L1_s, hxt]
          by_cases hk : (k : Int) < (m.length : Int)
          · rw [decide_eq_true hk, cond_true]
            cases hb : ((decide ((m.getD x []).getD k 0 < 0)) || (F_spec_l1Has begun (k : Int))) with
            | true => rw [cond_true]; exact ihf (k + 1) best least (by omega) hinv
            | false =>
              rw [cond_false]
              simp only [Bool.or_eq_false_iff, decide_eq_false_iff_not] at hb
              have hel' : 0 ≤ (m.getD x []).getD k 0 := by omega
              have hel : 0 ≤ el m x k := hel'
              have hsp := hs.push (show k < m.length by omega) hb.2
              have hc := ih (([] ++ begun) ++ [(k : Int)]) (sum + (m.getD x []).getD k 0) hsp (by simp only [List.length_append, List.length_cons, List.length_nil]; omega) (by omega)
              rw [show lastOf (([] ++ begun) ++ [(k : Int)]) = (k : Int) from last_push begun k] at hc
              simp only [Int.toNat_natCast] at hc
              cases hd : ((decide (0 ≤ (F_spec_l6Ways_R mr m (([] ++ begun) ++ [(k : Int)]) (sum + (m.getD x []).getD k 0) (y : Int)).2)) && ((decide (least < 0)) || (decide ((F_spec_l6Ways_R mr m (([] ++ begun) ++ [(k : Int)]) (sum + (m.getD x []).getD k 0) (y : Int)).2 < least)))) with
              | false => rw [cond_false]; exact ihf (k + 1) best least (by omega) hinv
              | true =>
                rw [cond_true]
                simp only [Bool.and_eq_true, decide_eq_true_eq] at hd
                obtain ⟨h1, h2⟩ := hc.1 hd.1
                refine ihf (k + 1) _ _ (by omega) (.inr ⟨hd.1, ?_, ?_⟩)
                · have h3 := dl_tri hT x k y (by omega)
                  have h4 := dl_edge (m := m) x k hel
                  have h5 : el m x k = (m.getD x []).getD k 0 := rfl
                  omega
                · have h3 := dl_tri hT x k y (by omega)
                  have h4 := dl_edge (m := m) x k hel
                  have h5 := (hT.tab.el x k).2
                  have h6 := dl_fin hT k y
                  have h7 := dl_fin hT x y
                  have h8 : el m x k = (m.getD x []).getD k 0 := rfl
                  omega
          · rw [decide_eq_false hk, cond_false]; exact ⟨_, _, _, rfl, hinv⟩
      obtain ⟨b', l', k', h1, h2⟩ := key (m.length - 0 + 1) 0 [] (-1) (by omega) (.inl ⟨by omega, rfl⟩)
      rw [h1]
      simp only [elim_next]
      rcases h2 with ⟨h2, h3⟩ | ⟨h2, h3, h4⟩
      · exact ⟨fun h => by omega, fun _ => h3⟩
      · exact ⟨fun _ => ⟨h3, h4⟩, fun h => by omega⟩
/-- The way that is taken is found. -/
theorem ways_eq {m : List (List Int)} (hT : TabP true m) {y : Nat} (hy : y < m.length) : ∀ fuel begun sum l, Smp m.length begun → m.length + 1 ≤ fuel + begun.length → 0 ≤ sum → Gw m y (lastOf begun).toNat l →
    (∀ b ∈ begun, b ≠ lastOf begun → dl m (lastOf begun).toNat y < dl m b.toNat y) → dl m (lastOf begun).toNat y < 1073741824 →
    F_spec_l6Ways_R fuel m begun sum (y : Int) = (begun ++ l, sum + dl m (lastOf begun).toNat y) := by
  intro fuel
  induction fuel with
  | zero => intro begun sum l hs hf; have := hs.len; omega
  | succ mr ih =>
    intro begun sum l hs hf h0 hg hord hfin
    obtain ⟨l1, l2, l3⟩ := hs.last
    rw [F_spec_l6Ways_R_s]
    generalize hx : (lastOf begun).toNat = x at hg
    have hxl : lastOf begun = (x : Int) := by omega
    cases hg with
    | nil =>
      rw [decide_eq_true (show lastOf begun = (y : Int) from hxl), cond_true, dl_self hT y]
      simp
    | @cons x z l hne hz ht hmin hl =>
      rw [hx] at hord hfin
      rw [decide_eq_false (show ¬ lastOf begun = (y : Int) by omega), cond_false]
      have htd := ht.2
      have hz0 := dl_pos m z y
      have hzb : F_spec_l1Has begun (z : Int) = false := by
        rw [Bool.eq_false_iff]; intro hh
        have h1 := hord (z : Int) (has_mem.1 hh) (by rw [hxl]; have := ht.1; omega)
        simp only [Int.toNat_natCast] at h1
        omega
      have hsp := hs.push hz hzb
      have hcz : F_spec_l6Ways_R mr m (([] ++ begun) ++ [(z : Int)]) (sum + (m.getD x []).getD z 0) (y : Int) = (begun ++ (z : Int) :: l, sum + dl m x y) := by
        have e1 : lastOf (([] ++ begun) ++ [(z : Int)]) = (z : Int) := last_push begun z
        have h1 := ih (([] ++ begun) ++ [(z : Int)]) (sum + (m.getD x []).getD z 0) l hsp (by simp only [List.length_append, List.length_cons, List.length_nil]; omega) (by have : el m x z = (m.getD x []).getD z 0 := rfl; omega)
          (by rw [e1]; simpa using hl) (fun b hb hbn => by
            rw [e1] at hbn ⊢
            simp only [Int.toNat_natCast]
            rcases List.mem_append.1 hb with hb | hb
            · by_cases e : b = lastOf begun
              · rw [e, hx]; omega
              · have := hord b (by simpa using hb) e; omega
            · exact absurd (List.mem_singleton.1 hb) hbn) (by rw [e1]; simp only [Int.toNat_natCast]; omega)
        rw [h1, e1]
        simp only [Int.toNat_natCast, List.nil_append, List.append_assoc, List.cons_append]
        have : el m x z = (m.getD x []).getD z 0 := rfl
        rw [show sum + (m.getD x []).getD z 0 + dl m z y = sum + dl m x y by omega]
      have key : ∀ fu k best least, m.length - k < fu → (k ≤ z → (least < 0 ∨ sum + dl m x y < least)) → (z < k → best = begun ++ (z : Int) :: l ∧ least = sum + dl m x y) →
          ∃ k', F_spec_l6Ways_L1 m begun sum (y : Int) (F_spec_l6Ways_R mr) fu (best, least, k) = .next (begun ++ (z : Int) :: l, sum + dl m x y, k') := by
        intro fu
        induction fu with
        | zero => intro k best least h; omega
        | succ mf ihf =>
          intro k best least h hlo hhi
          have hxt : (List.getD begun (((begun.length : Int) - 1).toNat) 0).toNat = x := hx
          rw [F_spec_l6Ways_L1_s, hxt]
          by_cases hk : (k : Int) < (m.length : Int)
          · rw [decide_eq_true hk, cond_true]
            cases hb : ((decide ((m.getD x []).getD k 0 < 0)) || (F_spec_l1Has begun (k : Int))) with
            | true =>
              rw [cond_true]
              have hkz : k ≠ z := fun e => by
                subst e
                rw [hzb, Bool.or_false, decide_eq_true_eq] at hb
                have : el m x k = (m.getD x []).getD k 0 := rfl
                omega
              exact ihf (k + 1) best least (by omega) (fun hh => hlo (by omega)) (fun hh => hhi (by omega))
            | false =>
              rw [cond_false]
              simp only [Bool.or_eq_false_iff, decide_eq_false_iff_not] at hb
              have hel' : 0 ≤ (m.getD x []).getD k 0 := by omega
              have hel : 0 ≤ el m x k := hel'
              by_cases ekz : k = z
              · subst ekz
                rw [hcz]
                have hh := hlo (Nat.le_refl _)
                have hp := dl_pos m x y
                rw [show ((decide (0 ≤ sum + dl m x y)) && ((decide (least < 0)) || (decide (sum + dl m x y < least)))) = true by
                  rw [decide_eq_true (by omega), Bool.true_and, Bool.or_eq_true, decide_eq_true_eq, decide_eq_true_eq]; exact hh]
                rw [cond_true]
                exact ihf (k + 1) _ _ (by omega) (fun hh => by omega) (fun _ => ⟨rfl, rfl⟩)
              · have hkb : (k : Int) ∉ begun := fun hh => by rw [has_mem.2 hh] at hb; cases hb.2
                have hkx : k ≠ x := fun e => hkb (by rw [e, ← hxl]; exact l3)
                have hsk := hs.push (show k < m.length by omega) hb.2
                have hc := (ways_ge hT hy mr (([] ++ begun) ++ [(k : Int)]) (sum + (m.getD x []).getD k 0) hsk (by simp only [List.length_append, List.length_cons, List.length_nil]; omega) (by omega)).1
                rw [show lastOf (([] ++ begun) ++ [(k : Int)]) = (k : Int) from last_push begun k] at hc
                simp only [Int.toNat_natCast] at hc
                have h3 := dl_tri hT x k y (by omega)
                have h4 := dl_edge (m := m) x k hel
                have h5 : el m x k = (m.getD x []).getD k 0 := rfl
                have hge : 0 ≤ (F_spec_l6Ways_R mr m (([] ++ begun) ++ [(k : Int)]) (sum + (m.getD x []).getD k 0) (y : Int)).2 → sum + dl m x y ≤ (F_spec_l6Ways_R mr m (([] ++ begun) ++ [(k : Int)]) (sum + (m.getD x []).getD k 0) (y : Int)).2 ∧
                    (k < z → sum + dl m x y < (F_spec_l6Ways_R mr m (([] ++ begun) ++ [(k : Int)]) (sum + (m.getD x []).getD k 0) (y : Int)).2) := fun hh => by
                  obtain ⟨h1, _⟩ := hc hh
                  refine ⟨by omega, fun hlt => ?_⟩
                  have hnt := hmin k hlt
                  have h6 : 0 < el m x k := by
                    have := hT.ok x k (by omega) (by omega)
                    rcases this.2.2 (Ne.symm hkx) with h | ⟨_, h⟩ <;> omega
                  have h7 : el m x k + dl m k y ≠ dl m x y := fun e => hnt ⟨by omega, hkx, h6, e⟩
                  omega
                cases hd : ((decide (0 ≤ (F_spec_l6Ways_R mr m (([] ++ begun) ++ [(k : Int)]) (sum + (m.getD x []).getD k 0) (y : Int)).2)) && ((decide (least < 0)) || (decide ((F_spec_l6Ways_R mr m (([] ++ begun) ++ [(k : Int)]) (sum + (m.getD x []).getD k 0) (y : Int)).2 < least)))) with
                | false =>
                  rw [cond_false]
                  exact ihf (k + 1) best least (by omega) (fun hh => hlo (by omega)) (fun hh => hhi (by omega))
                | true =>
                  rw [cond_true]
                  simp only [Bool.and_eq_true, decide_eq_true_eq, Bool.or_eq_true] at hd
                  obtain ⟨g1, g2⟩ := hge hd.1
                  by_cases hlt : k < z
                  · exact ihf (k + 1) _ _ (by omega) (fun _ => .inr (g2 hlt)) (fun hh => by omega)
                  · have hh := (hhi (by omega)).2
                    have hp := dl_pos m x y
                    omega
          · rw [decide_eq_false hk, cond_false]
            obtain ⟨e1, e2⟩ := hhi (by omega)
            rw [e1, e2]
            exact ⟨k, rfl⟩
      obtain ⟨k', h1⟩ := key (m.length - 0 + 1) 0 [] (-1) (by omega) (fun _ => .inl (by omega)) (fun hh => by omega)
      rw [h1]
      rfl
theorem smp_one {n : Nat} {x : Nat} (hx : x < n) : Smp n [(x : Int)] := ⟨by simp, by simp, fun v hv => by rw [List.mem_singleton.1 hv]; omega⟩
theorem way_both {m : List (List Int)} (hT : TabP true m) {x y : Nat} (hx : x < m.length) (hy : y < m.length) :
    (dl m x y = 1073741824 → F_spec_l6Ways m [(x : Int)] 0 (y : Int) = ([], (F_spec_l6Ways m [(x : Int)] 0 (y : Int)).2) ∧ (F_spec_l6Ways m [(x : Int)] 0 (y : Int)).2 < 0) ∧
    (dl m x y < 1073741824 → ∃ l, (l.length : Int) ≤ dl m x y ∧ F_spec_l6Ways m [(x : Int)] 0 (y : Int) = ((x : Int) :: l, dl m x y) ∧ F_impl_ShortestWay_L1 m (y : Int) ((dl m x y).toNat + 1) ((x : Int), [(x : Int)]) = .next ((y : Int), (x : Int) :: l)) := by
  have hs := smp_one hx
  have hl : lastOf [(x : Int)] = (x : Int) := rfl
  constructor
  · intro hd
    have h1 := ways_ge hT hy (m.length - [(x : Int)].length + 1) [(x : Int)] 0 hs (by simp; omega) (by omega)
    rw [hl] at h1
    simp only [Int.toNat_natCast] at h1
    have h2 : (F_spec_l6Ways m [(x : Int)] 0 (y : Int)).2 < 0 := by
      refine Classical.byContradiction fun hh => ?_
      have := h1.1 (by show 0 ≤ (F_spec_l6Ways m [(x : Int)] 0 (y : Int)).2; omega)
      omega
    exact ⟨Prod.ext (h1.2 h2) rfl, h2⟩
  · intro hd
    obtain ⟨l, h1, h2⟩ := gw_ex hT hy ((dl m x y).toNat + 1) x hx hd (by omega)
    refine ⟨l, h2, ?_, ?_⟩
    · have h3 := ways_eq hT hy (m.length - [(x : Int)].length + 1) [(x : Int)] 0 l hs (by simp; omega) (by omega) (by rw [hl]; simpa using h1)
        (fun b hb hbn => absurd (List.mem_singleton.1 hb) hbn) (by rw [hl]; simpa using hd)
      rw [hl] at h3
      simp only [Int.toNat_natCast] at h3
      show F_spec_l6Ways_R _ _ _ _ _ = _
      rw [h3]
      simp
    · rw [way_L1 hT hy h1 hx _ _ (by omega)]
      rfl
theorem shortestWay_both (m : List (List Int)) (x y : Int) : F_impl_ShortestWay m x y = F_spec_ShortestWay m x y ∧ (F_impl_ShortestWay m x y).1.length ≤ 7000 := by
  unfold F_impl_ShortestWay F_spec_ShortestWay
  rw [table_eq]
  cases hb : (((!(F_spec_l6Table m true)) || (!((decide (0 ≤ x)) && (decide (x ≤ ((m.length : Int) - 1)))))) || (!((decide (0 ≤ y)) && (decide (y ≤ ((m.length : Int) - 1)))))) with
  | true => exact ⟨rfl, by simp⟩
  | false =>
    simp only [Bool.or_eq_false_iff, Bool.not_eq_false', Bool.and_eq_true, decide_eq_true_eq] at hb
    obtain ⟨⟨h1, h2⟩, h3⟩ := hb
    have hT := (l6Table_iff m true).1 h1
    obtain ⟨x, rfl⟩ : ∃ k : Nat, x = k := ⟨x.toNat, by omega⟩
    obtain ⟨y, rfl⟩ : ∃ k : Nat, y = k := ⟨y.toNat, by omega⟩
    have hx : x < m.length := by omega
    have hy : y < m.length := by omega
    have hc : ((F_impl_Metric_closed m).getD ((x : Int)).toNat []).getD ((y : Int)).toNat 0 = dl m x y := (closed_el hT).2 x y hx hy
    rw [hc, cond_false, cond_false]
    obtain ⟨w1, w2⟩ := way_both hT hx hy
    rcases dl_fin hT x y with hd | hd
    · obtain ⟨g1, g2⟩ := w1 hd
      rw [decide_eq_true (show 1073741824 ≤ dl m x y by omega), cond_true, g1, decide_eq_false (by omega)]
      exact ⟨rfl, by simp⟩
    · obtain ⟨l, g0, g1, g2⟩ := w2 (by omega)
      have hp := dl_pos m x y
      rw [decide_eq_false (show ¬ 1073741824 ≤ dl m x y by omega), cond_false, g1, g2]
      simp only [elim_next]
      rw [decide_eq_true hp]
      exact ⟨rfl, by simp; omega⟩
/-! what the walks ask -/
theorem closed_bd {m : List (List Int)} (hT : TabP true m) (i j : Nat) : 0 ≤ ((F_impl_Metric_closed m).getD i []).getD j 0 ∧ ((F_impl_Metric_closed m).getD i []).getD j 0 ≤ 1073741824 := by
  obtain ⟨h1, h2⟩ := closed_el hT
  by_cases hi : i < m.length
  · by_cases hj : j < m.length
    · have h3 : ((F_impl_Metric_closed m).getD i []).getD j 0 = dl m i j := h2 i j hi hj
      have := dl_fin hT i j; have := dl_pos m i j
      omega
    · rw [getD_ge _ j 0 (by rw [h1.rows i hi]; omega)]; omega
  · rw [getD_ge _ i [] (by rw [h1.len]; omega)]; simp
theorem closed_fin {m : List (List Int)} (hT : TabP true m) (i j : Nat) (hi : i < m.length) (hj : j < m.length) : ((F_impl_Metric_closed m).getD i []).getD j 0 = 1073741824 ∨ ((F_impl_Metric_closed m).getD i []).getD j 0 ≤ 6336 := by
  have h3 : ((F_impl_Metric_closed m).getD i []).getD j 0 = dl m i j := (closed_el hT).2 i j hi hj
  rw [h3]; exact dl_fin hT i j
def tight (m : List (List Int)) (y x : Int) (k : Nat) : Prop := ¬ ((k : Int) = x) ∧ 0 < (m.getD x.toNat []).getD k 0 ∧ (m.getD x.toNat []).getD k 0 + ((F_impl_Metric_closed m).getD k []).getD y.toNat 0 = ((F_impl_Metric_closed m).getD x.toNat []).getD y.toNat 0
theorem is_tight {m : List (List Int)} {y x x2 : Int} {k : Nat} (h2 : x2 = x) (h : (((!decide ((k : Int) = x2)) && (decide (0 < (m.getD x.toNat []).getD k 0))) && (decide ((m.getD x.toNat []).getD k 0 + ((F_impl_Metric_closed m).getD k []).getD y.toNat 0 = ((F_impl_Metric_closed m).getD x2.toNat []).getD y.toNat 0))) = true) : tight m y x k := by
  subst h2
  simp only [Bool.and_eq_true, Bool.not_eq_true', decide_eq_false_iff_not, decide_eq_true_eq] at h
  exact ⟨h.1.1, h.1.2, h.2⟩
theorem not_tight {m : List (List Int)} {y x x2 : Int} {k : Nat} (h2 : x2 = x) (h : (((!decide ((k : Int) = x2)) && (decide (0 < (m.getD x.toNat []).getD k 0))) && (decide ((m.getD x.toNat []).getD k 0 + ((F_impl_Metric_closed m).getD k []).getD y.toNat 0 = ((F_impl_Metric_closed m).getD x2.toNat []).getD y.toNat 0))) = false) : ¬ tight m y x k := by
  subst h2
  intro ⟨h3, h4, h5⟩
  rw [decide_eq_false h3, decide_eq_true h4, decide_eq_true h5] at h
  cases h
theorem tight_none {m : List (List Int)} (hT : TabP true m) {y x : Int} (hx : 0 ≤ x ∧ x < m.length) (hy : 0 ≤ y ∧ y < m.length) (hne : ¬ x = y) (hf : ((F_impl_Metric_closed m).getD x.toNat []).getD y.toNat 0 < 1073741824) {k : Nat} (hk : m.length ≤ k) (h : ∀ j, j < k → ¬ tight m y x j) : (0 : Int) < 0 := by
  obtain ⟨_, h2⟩ := closed_el hT
  have e1 : ((F_impl_Metric_closed m).getD x.toNat []).getD y.toNat 0 = dl m x.toNat y.toNat := h2 _ _ (by omega) (by omega)
  obtain ⟨z, g1, g2, g3, g4⟩ := tgt_ex hT (x := x.toNat) (y := y.toNat) (by omega) (by omega) (by omega) (by rw [← e1]; exact hf)
  have e2 : ((F_impl_Metric_closed m).getD z []).getD y.toNat 0 = dl m z y.toNat := h2 _ _ g1 (by omega)
  exact absurd ⟨by omega, g3, by rw [e1, e2]; exact g4⟩ (h z (by omega))
theorem tight_step {m : List (List Int)} (hT : TabP true m) {y x : Int} {k : Nat} (h : tight m y x k) : ((F_impl_Metric_closed m).getD ((k : Int)).toNat []).getD y.toNat 0 < ((F_impl_Metric_closed m).getD x.toNat []).getD y.toNat 0 ∧ 0 ≤ ((F_impl_Metric_closed m).getD ((k : Int)).toNat []).getD y.toNat 0 := by
  obtain ⟨_, h2, h3⟩ := h
  have := closed_bd hT k y.toNat
  simp only [Int.toNat_natCast]
  omega
end Go.Proofs.Ytfhhfhiooehlcaa
