/-
  Regions that draw their order, of which several operations that turn the world may come up: each order is walked; they meet behind the region. No condition.
-/
import Derived.Test.YtcmhgkcifejgcaaMore
namespace Go.Proofs.Ytcmhgkcifejgcaa
open Go Go.RowKit

section
variable {P : Program} {ops : Array Oper} {Q : Exit → Act → World → Prop} {N : Nat} {C S : World → Prop} {l : Sl} {fuel : Nat} {listed : Array Bool}
theorem TC.mid {c : Code} (R : Act → World → Prop) (h : TC P c (Only R) N C l) (h2 : ∀ a w, R a w → Q .normal a w) : TC P c Q N C l := fun a w hs hc =>
  Code.wp_mono (fun e a' w' q => by cases e <;> first | exact h2 _ _ q | exact q.elim) (h a w hs hc)
theorem th_one (i : Nat) {o : Oper} (hi : ops[i]? = some o)
    (h : TL P ops (Only fun a w => S w ∧ wpAnyH P .any ops (Only (Q .normal)) S fuel (listed.setIfInBounds i true) a w) N C [o] l) : ∀ a w, Slots N l a → C w → wpOp P ops (Only (Q .normal)) i (fun a' w' => S w' ∧ wpAnyH P .any ops (Only (Q .normal)) S fuel (listed.setIfInBounds i true) a' w') a w := fun a w hs hcw => by
  have h1 := h a w hs hcw
  unfold wpList at h1
  unfold wpOp
  rw [hi]
  dsimp only
  split
  · rename_i hw
    rw [if_pos hw] at h1
    rcases h1 with h1 | ⟨_, h1⟩
    · exact .inl (wp_only h1)
    · obtain ⟨_, _, h1⟩ := h1; exact h1.elim
  · rename_i hw
    rw [if_neg hw] at h1
    exact h1
theorem TH.loud2 (i j : Nat) {oi oj : Oper} (hi : ops[i]? = some oi) (hj : ops[j]? = some oj) (hr : Region.ready .any ops listed = [i, j])
    (h1 : TL P ops (Only fun a w => S w ∧ wpAnyH P .any ops (Only (Q .normal)) S fuel (listed.setIfInBounds i true) a w) N C [oi] l)
    (h2 : TL P ops (Only fun a w => S w ∧ wpAnyH P .any ops (Only (Q .normal)) S fuel (listed.setIfInBounds j true) a w) N C [oj] l) : TH P ops Q N S C (fuel + 1) listed l := fun a w hs hcw _ => by
  refine wpAnyH_all hr (by simp) fun k hk => ?_
  simp only [List.mem_cons, List.not_mem_nil, or_false] at hk
  rcases hk with rfl | rfl
  · exact th_one _ hi h1 a w hs hcw
  · exact th_one _ hj h2 a w hs hcw
theorem TH.loud3 (i j k : Nat) {oi oj ok : Oper} (hi : ops[i]? = some oi) (hj : ops[j]? = some oj) (hk : ops[k]? = some ok) (hr : Region.ready .any ops listed = [i, j, k])
    (h1 : TL P ops (Only fun a w => S w ∧ wpAnyH P .any ops (Only (Q .normal)) S fuel (listed.setIfInBounds i true) a w) N C [oi] l)
    (h2 : TL P ops (Only fun a w => S w ∧ wpAnyH P .any ops (Only (Q .normal)) S fuel (listed.setIfInBounds j true) a w) N C [oj] l)
    (h3 : TL P ops (Only fun a w => S w ∧ wpAnyH P .any ops (Only (Q .normal)) S fuel (listed.setIfInBounds k true) a w) N C [ok] l) : TH P ops Q N S C (fuel + 1) listed l := fun a w hs hcw _ => by
  refine wpAnyH_all hr (by simp) fun q hq => ?_
  simp only [List.mem_cons, List.not_mem_nil, or_false] at hq
  rcases hq with rfl | rfl | rfl
  · exact th_one _ hi h1 a w hs hcw
  · exact th_one _ hj h2 a w hs hcw
  · exact th_one _ hk h3 a w hs hcw
end
end Go.Proofs.Ytcmhgkcifejgcaa
