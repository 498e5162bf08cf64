/-
  A law on caches: to let go of what is asked for last is best. Plain, on sets of numbers as predicates. No condition.
-/
import Derived.Test.YtlhmmhlfledleaaPlain
namespace Go.Proofs.Ytlhmmhlfledleaa

def padd (S : Int → Bool) (r : Int) : Int → Bool := fun x => decide (x = r) || S x
def pdel (S : Int → Bool) (z : Int) : Int → Bool := fun x => !decide (x = z) && S x
theorem padd_t {S : Int → Bool} {r x : Int} : padd S r x = true ↔ x = r ∨ S x = true := by simp [padd]
theorem pdel_t {S : Int → Bool} {r x : Int} : pdel S r x = true ↔ x ≠ r ∧ S x = true := by simp [pdel]
theorem pext {S T : Int → Bool} (h : ∀ x, S x = true ↔ T x = true) : S = T := by
  funext x; rw [Bool.eq_iff_iff]; exact h x
theorem bnt {b : Bool} : b = false ↔ ¬ b = true := by cases b <;> simp
def card (U : List Int) (S : Int → Bool) : Nat := U.countP S
theorem card_congr {U : List Int} {S T : Int → Bool} (h : ∀ x ∈ U, S x = T x) : card U S = card U T := by
  induction U with
  | nil => rfl
  | cons u U ih =>
    unfold card at *
    rw [List.countP_cons, List.countP_cons, ih (fun x hx => h x (List.mem_cons_of_mem _ hx)), h u (List.mem_cons_self ..)]
theorem card_add {r : Int} {S : Int → Bool} (hS : S r = false) : ∀ {U : List Int}, U.Nodup → r ∈ U → card U (padd S r) = card U S + 1 := by
  intro U
  induction U with
  | nil => intro _ h; cases h
  | cons u U ih =>
    intro hU hr
    have h1 := List.nodup_cons.1 hU
    by_cases e : u = r
    · subst e
      have h2 : card U (padd S u) = card U S := card_congr fun x hx => by
        have : x ≠ u := fun e => h1.1 (e ▸ hx)
        simp [padd, this]
      unfold card at *
      rw [List.countP_cons, List.countP_cons, h2]
      simp [padd, hS]
    · have h3 := ih h1.2 (by rcases List.mem_cons.1 hr with h | h; exact absurd h.symm e; exact h)
      unfold card at *
      rw [List.countP_cons, List.countP_cons, h3]
      simp [padd, e]
      omega
theorem card_del {z : Int} {S : Int → Bool} (hS : S z = true) {U : List Int} (hU : U.Nodup) (hz : z ∈ U) : card U (pdel S z) + 1 = card U S := by
  have h := card_add (S := pdel S z) (r := z) (by simp [pdel]) hU hz
  have e : padd (pdel S z) z = S := pext fun x => by
    rw [padd_t, pdel_t]
    by_cases hx : x = z
    · subst hx; simp [hS]
    · simp [hx]
  rw [e] at h
  exact h.symm

/-- What a schedule can cost from a set of pages on. -/
def Cost (k : Nat) (U : List Int) : List Int → (Int → Bool) → Nat → Prop
  | [], _, c => c = 0
  | r :: rs, S, c => (S r = true ∧ Cost k U rs S c) ∨ (S r = false ∧ ∃ c', c = c' + 1 ∧ ((card U S < k ∧ Cost k U rs (padd S r) c') ∨ ∃ z, z ∈ U ∧ S z = true ∧ Cost k U rs (padd (pdel S z) r) c'))
def nxt (y : Int) : List Int → Nat
  | [] => 0
  | r :: rs => if r = y then 0 else nxt y rs + 1

section
variable {k : Nat} {U : List Int} (hU : U.Nodup)
include hU
theorem cost_less : ∀ (rs : List Int), (∀ r ∈ rs, r ∈ U) → ∀ (T : Int → Bool) (x : Int) (c : Nat), x ∈ U → T x = false → card U (padd T x) ≤ k → Cost k U rs (padd T x) c → ∃ c', c' ≤ c + 1 ∧ Cost k U rs T c' := by
  intro rs
  induction rs with
  | nil => intro _ T x c _ _ _ h; exact ⟨0, by omega, rfl⟩
  | cons r rs ih =>
    intro hrs T x c hx hT hk h
    have hrU := hrs r (List.mem_cons_self ..)
    have ih := ih (fun q hq => hrs q (List.mem_cons_of_mem _ hq))
    have hc1 := card_add hT hU hx
    by_cases hrx : r = x
    · subst hrx
      rcases h with ⟨_, h⟩ | ⟨h, _⟩
      · exact ⟨c + 1, Nat.le_refl _, .inr ⟨hT, c, rfl, .inl ⟨by omega, h⟩⟩⟩
      · simp [padd] at h
    · have hr : padd T x r = T r := by simp [padd, hrx]
      rcases h with ⟨h0, h⟩ | ⟨h0, c1, rfl, h⟩
      · obtain ⟨c', h1, h2⟩ := ih T x c hx hT hk h
        exact ⟨c', h1, .inl ⟨by rw [← hr]; exact h0, h2⟩⟩
      · rw [hr] at h0
        rcases h with ⟨h1, h⟩ | ⟨z, hz, h1, h⟩
        · have e : padd (padd T x) r = padd (padd T r) x := pext fun q => by simp only [padd_t]; grind
          rw [e] at h
          have hT' : padd T r x = false := by rw [bnt, padd_t]; simp [hT, Ne.symm hrx]
          have hcc := card_add hT' hU hx
          have hcr := card_add h0 hU hrU
          obtain ⟨c', h2, h3⟩ := ih (padd T r) x c1 hx hT' (by omega) h
          exact ⟨c' + 1, by omega, .inr ⟨h0, c', rfl, .inl ⟨by omega, h3⟩⟩⟩
        · by_cases hzx : z = x
          · subst hzx
            have e : pdel (padd T z) z = T := pext fun q => by
              simp only [padd_t, pdel_t]
              by_cases hq : q = z
              · subst hq; simp [hT]
              · simp [hq]
            rw [e] at h
            exact ⟨c1 + 1, by omega, .inr ⟨h0, c1, rfl, .inl ⟨by omega, h⟩⟩⟩
          · have hTz : T z = true := by rw [padd_t] at h1; rcases h1 with h1 | h1; exact absurd h1 hzx; exact h1
            have e : padd (pdel (padd T x) z) r = padd (padd (pdel T z) r) x := pext fun q => by simp only [padd_t, pdel_t]; grind
            rw [e] at h
            have hT' : padd (pdel T z) r x = false := by rw [bnt, padd_t, pdel_t]; simp [hT, Ne.symm hrx]
            have hcc := card_add hT' hU hx
            have hd := card_del hTz hU hz
            have hcr := card_add (S := pdel T z) (r := r) (by simp [pdel, h0]) hU hrU
            obtain ⟨c', h2, h3⟩ := ih (padd (pdel T z) r) x c1 hx hT' (by omega) h
            exact ⟨c' + 1, by omega, .inr ⟨h0, c', rfl, .inr ⟨z, hz, hTz, h3⟩⟩⟩
theorem cost_more : ∀ (rs : List Int), (∀ r ∈ rs, r ∈ U) → ∀ (T : Int → Bool) (x : Int) (c : Nat), x ∈ U → T x = false → card U (padd T x) ≤ k → Cost k U rs T c → ∃ c', c' ≤ c ∧ Cost k U rs (padd T x) c' := by
  intro rs
  induction rs with
  | nil => intro _ T x c _ _ _ h; exact ⟨c, Nat.le_refl _, h⟩
  | cons r rs ih =>
    intro hrs T x c hx hT hk h
    have hrU := hrs r (List.mem_cons_self ..)
    have ih := ih (fun q hq => hrs q (List.mem_cons_of_mem _ hq))
    have hc1 := card_add hT hU hx
    by_cases hrx : r = x
    · subst hrx
      have hin : padd T r r = true := by simp [padd]
      rcases h with ⟨h, _⟩ | ⟨_, c1, rfl, h⟩
      · rw [hT] at h; cases h
      · rcases h with ⟨_, h⟩ | ⟨z, hz, h1, h⟩
        · exact ⟨c1, by omega, .inl ⟨hin, h⟩⟩
        · have hzr : z ≠ r := fun e => by subst e; rw [hT] at h1; cases h1
          have hT' : padd (pdel T z) r z = false := by rw [bnt, padd_t, pdel_t]; simp [hzr]
          have e : padd (padd (pdel T z) r) z = padd T r := pext fun q => by simp only [padd_t, pdel_t]; grind
          obtain ⟨c', h2, h3⟩ := ih (padd (pdel T z) r) z c1 hz hT' (by rw [e]; exact hk) h
          rw [e] at h3
          exact ⟨c', by omega, .inl ⟨hin, h3⟩⟩
    · have hr : padd T x r = T r := by simp [padd, hrx]
      rcases h with ⟨h0, h⟩ | ⟨h0, c1, rfl, h⟩
      · obtain ⟨c', h1, h2⟩ := ih T x c hx hT hk h
        exact ⟨c', h1, .inl ⟨by rw [hr]; exact h0, h2⟩⟩
      · rcases h with ⟨h1, h⟩ | ⟨z, hz, h1, h⟩
        · refine ⟨c1 + 1, Nat.le_refl _, .inr ⟨by rw [hr]; exact h0, c1, rfl, .inr ⟨x, hx, by simp [padd], ?_⟩⟩⟩
          have e : pdel (padd T x) x = T := pext fun q => by
            simp only [padd_t, pdel_t]
            by_cases hq : q = x
            · subst hq; simp [hT]
            · simp [hq]
          rw [e]; exact h
        · have hzx : z ≠ x := fun e => by subst e; rw [hT] at h1; cases h1
          have hT' : padd (pdel T z) r x = false := by rw [bnt, padd_t, pdel_t]; simp [hT, Ne.symm hrx]
          have hcc := card_add hT' hU hx
          have hd := card_del h1 hU hz
          have hcr := card_add (S := pdel T z) (r := r) (by simp [pdel, h0]) hU hrU
          obtain ⟨c', h2, h3⟩ := ih (padd (pdel T z) r) x c1 hx hT' (by omega) h
          have e : padd (pdel (padd T x) z) r = padd (padd (pdel T z) r) x := pext fun q => by simp only [padd_t, pdel_t]; grind
          rw [← e] at h3
          exact ⟨c' + 1, by omega, .inr ⟨by rw [hr]; exact h0, c', rfl, .inr ⟨z, hz, by rw [padd_t]; exact .inr h1, h3⟩⟩⟩
/-- One page for another: at most one fault more; none more if the other one comes no later. -/
theorem cost_swap (b : Bool) : ∀ (rs : List Int), (∀ r ∈ rs, r ∈ U) → ∀ (S : Int → Bool) (x y : Int) (c : Nat), x ∈ U → y ∈ U → S x = true → S y = false → card U S ≤ k → (b = true → nxt y rs ≤ nxt x rs) → Cost k U rs S c →
    ∃ c', c' ≤ c + (if b then 0 else 1) ∧ Cost k U rs (padd (pdel S x) y) c' := by
  intro rs
  induction rs generalizing b with
  | nil => intro _ S x y c _ _ _ _ _ _ h; exact ⟨0, by omega, rfl⟩
  | cons r rs ih =>
    intro hrs S x y c hx hy hSx hSy hk hn h
    have hrU := hrs r (List.mem_cons_self ..)
    have hrs' := fun q hq => hrs q (List.mem_cons_of_mem _ hq)
    have hxy : x ≠ y := fun e => by subst e; rw [hSx] at hSy; cases hSy
    have hd := card_del hSx hU hx
    have hTc := card_add (S := pdel S x) (r := y) (by simp [pdel, hSy]) hU hy
    by_cases hrx : r = x
    · subst hrx
      have hry : r ≠ y := hxy
      cases b with
      | true => have := hn rfl; simp [nxt, hry] at this
      | false =>
        rcases h with ⟨_, h⟩ | ⟨h, _⟩
        · refine ⟨c + 1, by simp, .inr ⟨by rw [bnt, padd_t, pdel_t]; simp [hry], c, rfl, .inr ⟨y, hy, by simp [padd], ?_⟩⟩⟩
          have e : padd (pdel (padd (pdel S r) y) y) r = S := pext fun q => by
            simp only [padd_t, pdel_t]
            by_cases h1 : q = r
            · subst h1; simp [hSx]
            · by_cases h2 : q = y
              · subst h2; simp [h1, hSy]
              · simp [h1, h2]
          rw [e]; exact h
        · rw [hSx] at h; cases h
    · by_cases hry : r = y
      · subst hry
        have hin : padd (pdel S x) r r = true := by simp [padd]
        rcases h with ⟨h, _⟩ | ⟨_, c1, rfl, h⟩
        · rw [hSy] at h; cases h
        · have fin : ∀ c', c' ≤ c1 + 1 → Cost k U rs (padd (pdel S x) r) c' → ∃ c', c' ≤ c1 + 1 + (if b then 0 else 1) ∧ Cost k U (r :: rs) (padd (pdel S x) r) c' := fun c' h1 h2 => ⟨c', by omega, .inl ⟨hin, h2⟩⟩
          rcases h with ⟨h1, h⟩ | ⟨z, hz, h1, h⟩
          · have hTx : padd (pdel S x) r x = false := by rw [bnt, padd_t, pdel_t]; simp [Ne.symm hrx]
            have e : padd (padd (pdel S x) r) x = padd S r := pext fun q => by simp only [padd_t, pdel_t]; grind
            have := card_add (S := S) (r := r) hSy hU hrU
            obtain ⟨c', h2, h3⟩ := cost_less (k := k) hU rs hrs' (padd (pdel S x) r) x c1 hx hTx (by rw [e]; omega) (by rw [e]; exact h)
            exact fin c' h2 h3
          · by_cases hzx : z = x
            · subst hzx; exact fin c1 (by omega) h
            · have hzr : z ≠ r := fun e => by subst e; rw [hSy] at h1; cases h1
              have hz1 := card_del h1 hU hz
              have hz2 := card_add (S := pdel S z) (r := r) (by simp [pdel, hSy]) hU hrU
              obtain ⟨c', h2, h3⟩ := ih false hrs' (padd (pdel S z) r) x z c1 hx hz (by rw [padd_t, pdel_t]; exact .inr ⟨Ne.symm hzx, hSx⟩) (by rw [bnt, padd_t, pdel_t]; simp [hzr]) (by omega) (by simp) h
              have e : padd (pdel (padd (pdel S z) r) x) z = padd (pdel S x) r := pext fun q => by simp only [padd_t, pdel_t]; grind
              rw [e] at h3
              exact fin c' (by simpa using h2) h3
      · have hr : padd (pdel S x) y r = S r := by simp [padd, pdel, hrx, hry]
        have hn' : b = true → nxt y rs ≤ nxt x rs := fun hb => by have := hn hb; simpa [nxt, hrx, hry] using this
        rcases h with ⟨h0, h⟩ | ⟨h0, c1, rfl, h⟩
        · obtain ⟨c', h1, h2⟩ := ih b hrs' S x y c hx hy hSx hSy hk hn' h
          exact ⟨c', h1, .inl ⟨by rw [hr]; exact h0, h2⟩⟩
        · rcases h with ⟨h1, h⟩ | ⟨z, hz, h1, h⟩
          · have := card_add h0 hU hrU
            obtain ⟨c', h2, h3⟩ := ih b hrs' (padd S r) x y c1 hx hy (by rw [padd_t]; exact .inr hSx) (by rw [bnt, padd_t]; simp [hSy, Ne.symm hry]) (by omega) hn' h
            have e : padd (pdel (padd S r) x) y = padd (padd (pdel S x) y) r := pext fun q => by simp only [padd_t, pdel_t]; grind
            rw [e] at h3
            exact ⟨c' + 1, by omega, .inr ⟨by rw [hr]; exact h0, c', rfl, .inl ⟨by omega, h3⟩⟩⟩
          · by_cases hzx : z = x
            · subst hzx
              refine ⟨c1 + 1, by omega, .inr ⟨by rw [hr]; exact h0, c1, rfl, .inr ⟨y, hy, by simp [padd], ?_⟩⟩⟩
              have e : pdel (padd (pdel S z) y) y = pdel S z := pext fun q => by
                simp only [padd_t, pdel_t]
                by_cases h2 : q = y
                · subst h2; simp [hSy]
                · simp [h2]
              rw [e]; exact h
            · have hzy : z ≠ y := fun e => by subst e; rw [hSy] at h1; cases h1
              have hz1 := card_del h1 hU hz
              have hz2 := card_add (S := pdel S z) (r := r) (by simp [pdel, h0]) hU hrU
              obtain ⟨c', h2, h3⟩ := ih b hrs' (padd (pdel S z) r) x y c1 hx hy (by rw [padd_t, pdel_t]; exact .inr ⟨Ne.symm hzx, hSx⟩) (by rw [bnt, padd_t, pdel_t]; simp [hSy, Ne.symm hry]) (by omega) hn' h
              have e : padd (pdel (padd (pdel S z) r) x) y = padd (pdel (padd (pdel S x) y) z) r := pext fun q => by simp only [padd_t, pdel_t]; grind
              rw [e] at h3
              exact ⟨c' + 1, by omega, .inr ⟨by rw [hr]; exact h0, c', rfl, .inr ⟨z, hz, by rw [padd_t, pdel_t]; exact .inr ⟨hzx, h1⟩, h3⟩⟩⟩
/-- To let go of nothing is best while there is room. -/
theorem cost_room {rs : List Int} (hrs : ∀ r ∈ rs, r ∈ U) {S : Int → Bool} {r : Int} (hr : r ∈ U) (h0 : S r = false) (hk : card U S < k) {c : Nat} (h : Cost k U (r :: rs) S c) : ∃ c', c' + 1 ≤ c ∧ Cost k U rs (padd S r) c' := by
  rcases h with ⟨h, _⟩ | ⟨_, c1, rfl, h⟩
  · rw [h0] at h; cases h
  · rcases h with ⟨_, h⟩ | ⟨z, hz, h1, h⟩
    · exact ⟨c1, Nat.le_refl _, h⟩
    · have hzr : z ≠ r := fun e => by subst e; rw [h0] at h1; cases h1
      have e : padd (padd (pdel S z) r) z = padd S r := pext fun q => by simp only [padd_t, pdel_t]; grind
      have := card_add h0 hU hr
      obtain ⟨c', h2, h3⟩ := cost_more (k := k) hU rs hrs (padd (pdel S z) r) z c1 hz (by rw [bnt, padd_t, pdel_t]; simp [hzr]) (by rw [e]; omega) h
      rw [e] at h3
      exact ⟨c', by omega, h3⟩
/-- To let go of what is asked for last is best where there is no room. -/
theorem cost_far {rs : List Int} (hrs : ∀ r ∈ rs, r ∈ U) {S : Int → Bool} {r f : Int} (hr : r ∈ U) (h0 : S r = false) (hk : card U S = k) (hf : f ∈ U) (hSf : S f = true) (hfar : ∀ z, S z = true → nxt z rs ≤ nxt f rs) {c : Nat} (h : Cost k U (r :: rs) S c) :
    ∃ c', c' + 1 ≤ c ∧ Cost k U rs (padd (pdel S f) r) c' := by
  rcases h with ⟨h, _⟩ | ⟨_, c1, rfl, h⟩
  · rw [h0] at h; cases h
  · rcases h with ⟨h1, _⟩ | ⟨z, hz, h1, h⟩
    · omega
    · by_cases hzf : z = f
      · subst hzf; exact ⟨c1, Nat.le_refl _, h⟩
      · have hzr : z ≠ r := fun e => by subst e; rw [h0] at h1; cases h1
        have hfr : f ≠ r := fun e => by subst e; rw [h0] at hSf; cases hSf
        have hz1 := card_del h1 hU hz
        have hz2 := card_add (S := pdel S z) (r := r) (by simp [pdel, h0]) hU hr
        obtain ⟨c', h2, h3⟩ := cost_swap (k := k) hU true rs hrs (padd (pdel S z) r) f z c1 hf hz (by rw [padd_t, pdel_t]; exact .inr ⟨Ne.symm hzf, hSf⟩) (by rw [bnt, padd_t, pdel_t]; simp [hzr]) (by omega) (fun _ => hfar z h1) h
        have e : padd (pdel (padd (pdel S z) r) f) z = padd (pdel S f) r := pext fun q => by simp only [padd_t, pdel_t]; grind
        rw [e] at h3
        exact ⟨c', by simpa using h2, h3⟩
end
end Go.Proofs.Ytlhmmhlfledleaa
