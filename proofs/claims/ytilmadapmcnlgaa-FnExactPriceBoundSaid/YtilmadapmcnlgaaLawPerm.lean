/-
  Plain laws on the least cost of a matching: it is symmetric, has the triangle inequality, and does not ask in which order the points come. No condition.
-/
import Derived.Test.YtilmadapmcnlgaaLawServe
namespace Go.Proofs.Ytilmadapmcnlgaa

def pc (d : Int → Int → Int) : List Int → List Int → Int
  | a :: as, b :: bs => d a b + pc d as bs
  | _, _ => 0
theorem pc_cons (d : Int → Int → Int) (a b : Int) (as bs : List Int) : pc d (a :: as) (b :: bs) = d a b + pc d as bs := rfl
/-- One list put into another order, the other list can follow. -/
theorem pc_swap (d : Int → Int → Int) {b' b : List Int} (h : b'.Perm b) : ∀ a : List Int, a.length = b'.length → ∃ a', a'.Perm a ∧ pc d a b' = pc d a' b := by
  induction h with
  | nil => exact fun a _ => ⟨a, .refl _, rfl⟩
  | cons x _ ih =>
    intro a ha
    cases a with
    | nil => simp at ha
    | cons y as =>
      obtain ⟨as', h1, h2⟩ := ih as (by simpa using ha)
      exact ⟨y :: as', h1.cons y, by rw [pc_cons, pc_cons, h2]⟩
  | swap x y l =>
    intro a ha
    match a, ha with
    | p :: q :: as, _ =>
      refine ⟨q :: p :: as, .swap _ _ _, ?_⟩
      simp only [pc_cons]; omega
  | trans h1 _ ih1 ih2 =>
    intro a ha
    obtain ⟨a1, e1, e2⟩ := ih1 a ha
    obtain ⟨a2, e3, e4⟩ := ih2 a1 (by rw [e1.length_eq, ha, h1.length_eq])
    exact ⟨a2, e3.trans e1, e2.trans e4⟩
theorem pc_symm {d : Int → Int → Int} (hs : ∀ x y, d x y = d y x) : ∀ a b : List Int, pc d a b = pc d b a
  | [], [] => rfl
  | [], _ :: _ => rfl
  | _ :: _, [] => rfl
  | a :: as, b :: bs => by rw [pc_cons, pc_cons, hs, pc_symm hs as bs]
theorem pc_tri {d : Int → Int → Int} (S : Int → Prop) (ht : ∀ x y z, S x → S y → S z → d x z ≤ d x y + d y z) : ∀ a b c : List Int, a.length = b.length → b.length = c.length → (∀ x ∈ a, S x) → (∀ x ∈ b, S x) → (∀ x ∈ c, S x) → pc d a c ≤ pc d a b + pc d b c
  | [], [], [], _, _, _, _, _ => by simp [pc]
  | a :: as, b :: bs, c :: cs, h1, h2, h3, h4, h5 => by
    have h := pc_tri S ht as bs cs (by simpa using h1) (by simpa using h2) (fun x hx => h3 x (by simp [hx])) (fun x hx => h4 x (by simp [hx])) (fun x hx => h5 x (by simp [hx]))
    have h6 := ht a b c (h3 a (by simp)) (h4 b (by simp)) (h5 c (by simp))
    simp only [pc_cons]; omega
theorem perm_pick {x' x : List Int} (h : x'.Perm x) : ∀ t, t < x'.length → ∃ s, s < x.length ∧ x'.getD t 0 = x.getD s 0 ∧ ∀ r, (x'.set t r).Perm (x.set s r) := by
  induction h with
  | nil => intro t ht; simp at ht
  | cons y h ih =>
    intro t ht
    cases t with
    | zero => exact ⟨0, by simp, rfl, fun r => h.cons r⟩
    | succ t =>
      obtain ⟨s, h1, h2, h3⟩ := ih t (by simpa using ht)
      exact ⟨s + 1, by simpa using h1, by simpa using h2, fun r => (h3 r).cons y⟩
  | swap x y l =>
    intro t ht
    match t, ht with
    | 0, _ => exact ⟨1, by simp, rfl, fun r => .swap _ _ _⟩
    | 1, _ => exact ⟨0, by simp, rfl, fun r => .swap _ _ _⟩
    | t + 2, ht => exact ⟨t + 2, by simpa using ht, rfl, fun r => .swap _ _ _⟩
  | trans _ _ ih1 ih2 =>
    intro t ht
    obtain ⟨s, h1, h2, h3⟩ := ih1 t ht
    obtain ⟨q, h4, h5, h6⟩ := ih2 s h1
    exact ⟨q, h4, h2.trans h5, fun r => (h3 r).trans (h6 r)⟩
/-- The least cost of a matching. -/
structure Mn (d : Int → Int → Int) (a b : List Int) (c : Int) : Prop where
  hit : ∃ b', b'.Perm b ∧ c = pc d a b'
  low : ∀ b', b'.Perm b → c ≤ pc d a b'
theorem Mn.symm {d : Int → Int → Int} (hs : ∀ x y, d x y = d y x) {a b : List Int} {c : Int} (hl : a.length = b.length) (h : Mn d a b c) : Mn d b a c := by
  obtain ⟨⟨b', h1, h2⟩, h3⟩ := h
  obtain ⟨a', e1, e2⟩ := pc_swap d h1 a (by rw [h1.length_eq, hl])
  refine ⟨⟨a', e1, by rw [h2, e2, pc_symm hs]⟩, fun a2 ha2 => ?_⟩
  obtain ⟨b2, f1, f2⟩ := pc_swap d ha2 b (by rw [ha2.length_eq, hl])
  have := h3 b2 f1
  rw [f2, pc_symm hs]; exact this
theorem Mn.uniq {d : Int → Int → Int} {a b : List Int} {c c' : Int} (h : Mn d a b c) (h' : Mn d a b c') : c = c' := by
  obtain ⟨b1, h1, h2⟩ := h.hit
  obtain ⟨b2, h3, h4⟩ := h'.hit
  have := h.low b2 h3
  have := h'.low b1 h1
  omega
theorem Mn.tri {d : Int → Int → Int} (S : Int → Prop) (ht : ∀ x y z, S x → S y → S z → d x z ≤ d x y + d y z) {a b c : List Int} {p q r : Int} (hl : a.length = b.length) (hl2 : b.length = c.length)
    (ha : ∀ x ∈ a, S x) (hb : ∀ x ∈ b, S x) (hc : ∀ x ∈ c, S x) (h1 : Mn d a b p) (h2 : Mn d b c q) (h3 : Mn d a c r) : r ≤ p + q := by
  obtain ⟨b', e1, rfl⟩ := h1.hit
  obtain ⟨c', e2, rfl⟩ := h2.hit
  obtain ⟨c2, e3, e4⟩ := pc_swap (fun x y => d y x) e1.symm c' (by rw [e2.length_eq, hl2])
  have e5 : pc d b c' = pc d b' c2 := by
    have flip : ∀ u v : List Int, pc (fun x y => d y x) u v = pc d v u := fun u => by
      induction u with
      | nil => intro v; cases v <;> rfl
      | cons x u ih => intro v; cases v with
        | nil => rfl
        | cons y v => rw [pc_cons, pc_cons, ih]
    rw [flip, flip] at e4; exact e4
  have h4 := h3.low c2 (e3.trans e2)
  have h5 := pc_tri S ht a b' c2 (by rw [e1.length_eq, hl]) (by rw [e1.length_eq, e3.length_eq, e2.length_eq, hl2]) ha (fun x hx => hb x (e1.mem_iff.1 hx)) (fun x hx => hc x (e2.mem_iff.1 (e3.mem_iff.1 hx)))
  omega
/-- A list in another order costs as much. -/
theorem Mn.perm {d : Int → Int → Int} {a b b2 : List Int} {c : Int} (h : b2.Perm b) (h1 : Mn d a b c) : Mn d a b2 c := by
  obtain ⟨⟨b', e1, e2⟩, h3⟩ := h1
  exact ⟨⟨b', e1.trans h.symm, e2⟩, fun b'' hb => h3 b'' (hb.trans h)⟩
theorem pc_set (d : Int → Int → Int) : ∀ (a b : List Int) (t : Nat) (r : Int), t < a.length → t < b.length → pc d a (b.set t r) = pc d a b - d (a.getD t 0) (b.getD t 0) + d (a.getD t 0) r
  | [], _, _, _, h, _ => by simp at h
  | _ :: _, [], _, _, _, h => by simp at h
  | a :: as, b :: bs, 0, r, _, _ => by simp only [List.set_cons_zero, pc_cons, List.getD_cons_zero]; omega
  | a :: as, b :: bs, t + 1, r, h1, h2 => by
    have := pc_set d as bs t r (by simpa using h1) (by simpa using h2)
    simp only [List.set_cons_succ, pc_cons, List.getD_cons_succ]; omega
theorem pc_self {d : Int → Int → Int} : ∀ a : List Int, (∀ x ∈ a, d x x = 0) → pc d a a = 0
  | [], _ => rfl
  | a :: as, h => by rw [pc_cons, h a (by simp), pc_self as (fun x hx => h x (by simp [hx]))]; rfl
theorem pc_nonneg {d : Int → Int → Int} (S : Int → Prop) (h0 : ∀ x y, S x → S y → 0 ≤ d x y) : ∀ a b : List Int, (∀ x ∈ a, S x) → (∀ x ∈ b, S x) → 0 ≤ pc d a b
  | [], _, _, _ => by simp [pc]
  | _ :: _, [], _, _ => by simp [pc]
  | a :: as, b :: bs, h1, h2 => by
    have := pc_nonneg S h0 as bs (fun x hx => h1 x (by simp [hx])) (fun x hx => h2 x (by simp [hx]))
    have := h0 a b (h1 a (by simp)) (h2 b (by simp))
    rw [pc_cons]; omega
theorem perm2 {l : List Int} {x y : Int} (h : l.Perm [x, y]) : l = [x, y] ∨ l = [y, x] := by
  cases l with
  | nil => simpa using h.length_eq
  | cons p l =>
    have hp : p = x ∨ p = y := by simpa using h.mem_iff.1 (List.mem_cons_self)
    rcases hp with rfl | rfl
    · rw [List.perm_cons, List.perm_singleton] at h; subst h; exact .inl rfl
    · have h := h.trans (.swap _ _ _); rw [List.perm_cons, List.perm_singleton] at h; subst h; exact .inr rfl
theorem perm3 {l : List Int} {x y z : Int} (h : l.Perm [x, y, z]) : l = [x, y, z] ∨ l = [x, z, y] ∨ l = [y, x, z] ∨ l = [y, z, x] ∨ l = [z, x, y] ∨ l = [z, y, x] := by
  cases l with
  | nil => simpa using h.length_eq
  | cons p l =>
    have hp : p = x ∨ p = y ∨ p = z := by simpa using h.mem_iff.1 (List.mem_cons_self)
    rcases hp with rfl | rfl | rfl
    · rw [List.perm_cons] at h; rcases perm2 h with rfl | rfl <;> simp
    · have h := h.trans (.swap _ _ _); rw [List.perm_cons] at h; rcases perm2 h with rfl | rfl <;> simp
    · have h := h.trans ((List.Perm.swap _ _ _).cons x |>.trans (.swap _ _ _)); rw [List.perm_cons] at h; rcases perm2 h with rfl | rfl <;> simp
theorem perm3s (x y z : Int) : [x, z, y].Perm [x, y, z] ∧ [y, x, z].Perm [x, y, z] ∧ [y, z, x].Perm [x, y, z] ∧ [z, x, y].Perm [x, y, z] ∧ [z, y, x].Perm [x, y, z] := by
  refine ⟨(List.Perm.swap _ _ _).cons x, .swap _ _ _, ?_, ?_, ?_⟩
  · exact ((List.Perm.swap _ _ _).cons y).trans (.swap _ _ _)
  · exact (List.Perm.swap _ _ _).trans ((List.Perm.swap _ _ _).cons x)
  · exact ((List.Perm.swap _ _ _).cons z).trans ((List.Perm.swap _ _ _).trans ((List.Perm.swap _ _ _).cons x))


/-! the cost of a move is the least cost of a matching -/
def dm (m : List (List Int)) (x y : Int) : Int := el m x.toNat y.toNat
theorem el_out {m : List (List Int)} (hT : TabP false m) (x y : Nat) (h : ¬ (x < m.length ∧ y < m.length)) : el m x y = 0 := by
  by_cases hx : x < m.length
  · have hr := hT.rows x hx
    exact getD_ge _ _ _ (by omega)
  · show (m.getD x []).getD y 0 = 0
    rw [getD_ge m x [] (by omega)]; rfl
theorem el_symm {m : List (List Int)} (hT : TabP false m) (x y : Nat) : el m x y = el m y x := by
  by_cases h : x < m.length ∧ y < m.length
  · exact (hT.ok x y h.1 h.2).1
  · rw [el_out hT x y h, el_out hT y x (fun hh => h ⟨hh.2, hh.1⟩)]
theorem dm_symm {m : List (List Int)} (hT : TabP false m) (x y : Int) : dm m x y = dm m y x := el_symm hT _ _
theorem el_self {m : List (List Int)} (hT : TabP false m) (x : Nat) : el m x x = 0 := by
  by_cases h : x < m.length
  · exact (hT.ok x x h h).2.1 rfl
  · exact el_out hT x x (fun hh => h hh.1)
theorem el_bd {m : List (List Int)} (hT : TabP false m) (x y : Nat) : 0 ≤ el m x y ∧ el m x y ≤ 99 := by
  by_cases h : x < m.length ∧ y < m.length
  · have h1 := hT.ok x y h.1 h.2
    by_cases e : x = y
    · subst e; rw [h1.2.1 rfl]; omega
    · rcases h1.2.2 e with h | ⟨h, _⟩
      · omega
      · cases h
  · rw [el_out hT x y h]; omega
theorem best_low (m : List (List Int)) (a b : List Int) (h1 : 1 ≤ a.length) (h3 : a.length ≤ 3) : ∀ (fuel i : Nat) (best : List Int) (least : Int) s, (F_impl_orders (a.length : Int)).length - i < fuel → F_impl_Metric_matched_L1 m a b fuel (best, least, i) = .next s →
    s.2.1 ≤ least ∧ (∀ j, i ≤ j → j < (F_impl_orders (a.length : Int)).length → s.2.1 ≤ ordCost m a b ((F_impl_orders (a.length : Int)).getD j [])) ∧ (s.2.1 = least ∨ ∃ j, j < (F_impl_orders (a.length : Int)).length ∧ s.2.1 = ordCost m a b ((F_impl_orders (a.length : Int)).getD j [])) := by
  intro fuel
  induction fuel with
  | zero => intro i best least s h; omega
  | succ mf ih =>
    intro i best least s hf
    rw [F_impl_Metric_matched_L1_s]
    by_cases hi : (i : Int) < ((F_impl_orders (a.length : Int)).length : Int)
    · obtain ⟨j1, e1⟩ := matched_L2 m a b h1 h3 i (by omega)
      rw [e1, decide_eq_true hi]
      simp only [elim_next, cond_true]
      by_cases hd : ordCost m a b ((F_impl_orders (a.length : Int)).getD i []) < least
      · rw [decide_eq_true hd, cond_true]
        intro hs
        obtain ⟨g1, g2, g3⟩ := ih _ _ _ _ (by omega) hs
        refine ⟨by omega, fun j hj hl => ?_, ?_⟩
        · rcases Nat.eq_or_lt_of_le hj with rfl | hj
          · exact g1
          · exact g2 j hj hl
        · rcases g3 with g3 | g3
          · exact .inr ⟨i, by omega, g3⟩
          · exact .inr g3
      · rw [decide_eq_false hd, cond_false]
        intro hs
        obtain ⟨g1, g2, g3⟩ := ih _ _ _ _ (by omega) hs
        refine ⟨g1, fun j hj hl => ?_, g3⟩
        rcases Nat.eq_or_lt_of_le hj with rfl | hj
        · omega
        · exact g2 j hj hl
    · rw [decide_eq_false hi, cond_false]
      intro hs; injection hs with hs; subst hs
      exact ⟨Int.le_refl _, fun j h1 h2 => by omega, .inl rfl⟩
theorem ord1_0 (m : List (List Int)) (a0 b0 : Int) : ordCost m [a0] [b0] [0] = pc (dm m) [a0] [b0] := by
  show (0 + dm m a0 b0) = dm m a0 b0 + (0)
  omega
theorem ordp1 (m : List (List Int)) (a0 b0 : Int) : (∀ j, j < (F_impl_orders ((1 : Nat) : Int)).length → ∃ b', b'.Perm [b0] ∧ ordCost m [a0] [b0] ((F_impl_orders ((1 : Nat) : Int)).getD j []) = pc (dm m) [a0] b') ∧
    ∀ b', List.Perm b' [b0] → ∃ j, j < (F_impl_orders ((1 : Nat) : Int)).length ∧ ordCost m [a0] [b0] ((F_impl_orders ((1 : Nat) : Int)).getD j []) = pc (dm m) [a0] b' := by
  rw [show F_impl_orders ((1 : Nat) : Int) = _ from orders1]
  refine ⟨fun j hj => ?_, fun b' hb => ?_⟩
  · match j, hj with
    | 0, _ => exact ⟨_, .refl _, ord1_0 m a0 b0⟩
    | j + 1, hj => exact absurd hj (by simp)
  · rw [List.perm_singleton] at hb; subst hb; exact ⟨0, by simp, ord1_0 m a0 b0⟩
theorem ord2_0 (m : List (List Int)) (a0 a1 b0 b1 : Int) : ordCost m [a0, a1] [b0, b1] [0, 1] = pc (dm m) [a0, a1] [b0, b1] := by
  show ((0 + dm m a0 b0) + dm m a1 b1) = dm m a0 b0 + (dm m a1 b1 + (0))
  omega
theorem ord2_1 (m : List (List Int)) (a0 a1 b0 b1 : Int) : ordCost m [a0, a1] [b0, b1] [1, 0] = pc (dm m) [a0, a1] [b1, b0] := by
  show ((0 + dm m a0 b1) + dm m a1 b0) = dm m a0 b1 + (dm m a1 b0 + (0))
  omega
theorem ordp2 (m : List (List Int)) (a0 a1 b0 b1 : Int) : (∀ j, j < (F_impl_orders ((2 : Nat) : Int)).length → ∃ b', b'.Perm [b0, b1] ∧ ordCost m [a0, a1] [b0, b1] ((F_impl_orders ((2 : Nat) : Int)).getD j []) = pc (dm m) [a0, a1] b') ∧
    ∀ b', List.Perm b' [b0, b1] → ∃ j, j < (F_impl_orders ((2 : Nat) : Int)).length ∧ ordCost m [a0, a1] [b0, b1] ((F_impl_orders ((2 : Nat) : Int)).getD j []) = pc (dm m) [a0, a1] b' := by
  rw [show F_impl_orders ((2 : Nat) : Int) = _ from orders2]
  refine ⟨fun j hj => ?_, fun b' hb => ?_⟩
  · match j, hj with
    | 0, _ => exact ⟨_, .refl _, ord2_0 m a0 a1 b0 b1⟩
    | 1, _ => exact ⟨_, .swap _ _ _, ord2_1 m a0 a1 b0 b1⟩
    | j + 2, hj => exact absurd hj (by simp)
  · rcases perm2 hb with rfl | rfl
    · exact ⟨0, by simp, ord2_0 m a0 a1 b0 b1⟩
    · exact ⟨1, by simp, ord2_1 m a0 a1 b0 b1⟩
theorem ord3_0 (m : List (List Int)) (a0 a1 a2 b0 b1 b2 : Int) : ordCost m [a0, a1, a2] [b0, b1, b2] [0, 1, 2] = pc (dm m) [a0, a1, a2] [b0, b1, b2] := by
  show (((0 + dm m a0 b0) + dm m a1 b1) + dm m a2 b2) = dm m a0 b0 + (dm m a1 b1 + (dm m a2 b2 + (0)))
  omega
theorem ord3_1 (m : List (List Int)) (a0 a1 a2 b0 b1 b2 : Int) : ordCost m [a0, a1, a2] [b0, b1, b2] [0, 2, 1] = pc (dm m) [a0, a1, a2] [b0, b2, b1] := by
  show (((0 + dm m a0 b0) + dm m a1 b2) + dm m a2 b1) = dm m a0 b0 + (dm m a1 b2 + (dm m a2 b1 + (0)))
  omega
theorem ord3_2 (m : List (List Int)) (a0 a1 a2 b0 b1 b2 : Int) : ordCost m [a0, a1, a2] [b0, b1, b2] [1, 0, 2] = pc (dm m) [a0, a1, a2] [b1, b0, b2] := by
  show (((0 + dm m a0 b1) + dm m a1 b0) + dm m a2 b2) = dm m a0 b1 + (dm m a1 b0 + (dm m a2 b2 + (0)))
  omega
theorem ord3_3 (m : List (List Int)) (a0 a1 a2 b0 b1 b2 : Int) : ordCost m [a0, a1, a2] [b0, b1, b2] [1, 2, 0] = pc (dm m) [a0, a1, a2] [b1, b2, b0] := by
  show (((0 + dm m a0 b1) + dm m a1 b2) + dm m a2 b0) = dm m a0 b1 + (dm m a1 b2 + (dm m a2 b0 + (0)))
  omega
theorem ord3_4 (m : List (List Int)) (a0 a1 a2 b0 b1 b2 : Int) : ordCost m [a0, a1, a2] [b0, b1, b2] [2, 0, 1] = pc (dm m) [a0, a1, a2] [b2, b0, b1] := by
  show (((0 + dm m a0 b2) + dm m a1 b0) + dm m a2 b1) = dm m a0 b2 + (dm m a1 b0 + (dm m a2 b1 + (0)))
  omega
theorem ord3_5 (m : List (List Int)) (a0 a1 a2 b0 b1 b2 : Int) : ordCost m [a0, a1, a2] [b0, b1, b2] [2, 1, 0] = pc (dm m) [a0, a1, a2] [b2, b1, b0] := by
  show (((0 + dm m a0 b2) + dm m a1 b1) + dm m a2 b0) = dm m a0 b2 + (dm m a1 b1 + (dm m a2 b0 + (0)))
  omega
theorem ordp3 (m : List (List Int)) (a0 a1 a2 b0 b1 b2 : Int) : (∀ j, j < (F_impl_orders ((3 : Nat) : Int)).length → ∃ b', b'.Perm [b0, b1, b2] ∧ ordCost m [a0, a1, a2] [b0, b1, b2] ((F_impl_orders ((3 : Nat) : Int)).getD j []) = pc (dm m) [a0, a1, a2] b') ∧
    ∀ b', List.Perm b' [b0, b1, b2] → ∃ j, j < (F_impl_orders ((3 : Nat) : Int)).length ∧ ordCost m [a0, a1, a2] [b0, b1, b2] ((F_impl_orders ((3 : Nat) : Int)).getD j []) = pc (dm m) [a0, a1, a2] b' := by
  rw [show F_impl_orders ((3 : Nat) : Int) = _ from orders3]
  refine ⟨fun j hj => ?_, fun b' hb => ?_⟩
  · match j, hj with
    | 0, _ => exact ⟨_, .refl _, ord3_0 m a0 a1 a2 b0 b1 b2⟩
    | 1, _ => exact ⟨_, (perm3s b0 b1 b2).1, ord3_1 m a0 a1 a2 b0 b1 b2⟩
    | 2, _ => exact ⟨_, (perm3s b0 b1 b2).2.1, ord3_2 m a0 a1 a2 b0 b1 b2⟩
    | 3, _ => exact ⟨_, (perm3s b0 b1 b2).2.2.1, ord3_3 m a0 a1 a2 b0 b1 b2⟩
    | 4, _ => exact ⟨_, (perm3s b0 b1 b2).2.2.2.1, ord3_4 m a0 a1 a2 b0 b1 b2⟩
    | 5, _ => exact ⟨_, (perm3s b0 b1 b2).2.2.2.2, ord3_5 m a0 a1 a2 b0 b1 b2⟩
    | j + 6, hj => exact absurd hj (by simp)
  · rcases perm3 hb with rfl | rfl | rfl | rfl | rfl | rfl
    · exact ⟨0, by simp, ord3_0 m a0 a1 a2 b0 b1 b2⟩
    · exact ⟨1, by simp, ord3_1 m a0 a1 a2 b0 b1 b2⟩
    · exact ⟨2, by simp, ord3_2 m a0 a1 a2 b0 b1 b2⟩
    · exact ⟨3, by simp, ord3_3 m a0 a1 a2 b0 b1 b2⟩
    · exact ⟨4, by simp, ord3_4 m a0 a1 a2 b0 b1 b2⟩
    · exact ⟨5, by simp, ord3_5 m a0 a1 a2 b0 b1 b2⟩
theorem ordp (m : List (List Int)) (a b : List Int) (h1 : 1 ≤ a.length) (h3 : a.length ≤ 3) (hl : a.length = b.length) : (∀ j, j < (F_impl_orders (a.length : Int)).length → ∃ b', b'.Perm b ∧ ordCost m a b ((F_impl_orders (a.length : Int)).getD j []) = pc (dm m) a b') ∧
    ∀ b', List.Perm b' b → ∃ j, j < (F_impl_orders (a.length : Int)).length ∧ ordCost m a b ((F_impl_orders (a.length : Int)).getD j []) = pc (dm m) a b' := by
  match a, b, h1, h3, hl with
  | [a0], [b0], _, _, _ => exact ordp1 m a0 b0
  | [a0, a1], [b0, b1], _, _, _ => exact ordp2 m a0 a1 b0 b1
  | [a0, a1, a2], [b0, b1, b2], _, _, _ => exact ordp3 m a0 a1 a2 b0 b1 b2
theorem mn_move {m : List (List Int)} (hT : TabP false m) {a b : List Int} (ha : Cf m.length a) (hb : Cf m.length b) (hl : a.length = b.length) : Mn (dm m) a b (F_impl_Metric_moveCost m a b) := by
  unfold F_impl_Metric_moveCost F_impl_Metric_matched
  have hor := orders_row a.length ha.n1 ha.n3
  have hp := ordp m a b ha.n1 ha.n3 hl
  cases hs : F_impl_Metric_matched_L1 m a b ((F_impl_orders (a.length : Int)).length - 0 + 1) ([], 1073741824, 0) with
  | next s =>
    obtain ⟨g1, g2, g3⟩ := best_low m a b ha.n1 ha.n3 _ _ _ _ _ (by omega) hs
    have hc := ordCost_le hT ha hb hl _ (hor.2.2 0 (by omega)).2
    have g4 := g2 0 (by omega) (by omega)
    obtain ⟨s1, s2, s3⟩ := s
    simp only [elim_next] at g1 g2 g3 g4 ⊢
    refine ⟨?_, fun b' hb' => ?_⟩
    · rcases g3 with g3 | ⟨j, hj, g3⟩
      · omega
      · obtain ⟨b', e1, e2⟩ := hp.1 j hj
        exact ⟨b', e1, by rw [g3, e2]⟩
    · obtain ⟨j, hj, e⟩ := hp.2 b' hb'
      rw [← e]; exact g2 j (by omega) hj
  | ret r => exact absurd hs (noret_L1 m a b ha.n1 ha.n3 _ _ _ _ r)
theorem move_symm {m : List (List Int)} (hT : TabP false m) {a b : List Int} (ha : Cf m.length a) (hb : Cf m.length b) (hl : a.length = b.length) : F_impl_Metric_moveCost m a b = F_impl_Metric_moveCost m b a :=
  ((mn_move hT ha hb hl).symm (dm_symm hT) hl).uniq (mn_move hT hb ha hl.symm)
theorem Cf.mem {n : Nat} {a : List Int} (h : Cf n a) : ∀ x ∈ a, 0 ≤ x ∧ x < n := fun x hx => by
  obtain ⟨i, hi, rfl⟩ := List.mem_iff_getElem.1 hx
  have := h.el i hi
  rwa [getD_lt a i 0 hi] at this
theorem move_self {m : List (List Int)} (hT : TabP false m) {a : List Int} (ha : Cf m.length a) : F_impl_Metric_moveCost m a a = 0 := by
  have h1 := (mn_move hT ha ha rfl).low a (.refl _)
  have h2 := (moveCost_le hT ha ha rfl).1
  rw [pc_self a (fun x _ => el_self hT _)] at h1
  omega
theorem move_tri {m : List (List Int)} (hT : TabP false m) (ht : ∀ x y z, x < m.length → y < m.length → z < m.length → el m x z ≤ el m x y + el m y z) {a b c : List Int} (ha : Cf m.length a) (hb : Cf m.length b) (hc : Cf m.length c) (hl : a.length = b.length) (hl2 : b.length = c.length) :
    F_impl_Metric_moveCost m a c ≤ F_impl_Metric_moveCost m a b + F_impl_Metric_moveCost m b c :=
  Mn.tri (d := dm m) (fun x => 0 ≤ x ∧ x < m.length) (fun x y z hx hy hz => ht x.toNat y.toNat z.toNat (by omega) (by omega) (by omega)) hl hl2 ha.mem hb.mem hc.mem (mn_move hT ha hb hl) (mn_move hT hb hc hl2) (mn_move hT ha hc (hl.trans hl2))
end Go.Proofs.Ytilmadapmcnlgaa
