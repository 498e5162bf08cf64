/-
  Bits of small sets; a row of a table made longer. No condition.
-/
import Derived.Test.YtfhhfhiooehlcaaDel
import Derived.Laws.Bits64b
namespace Go.Proofs.Ytfhhfhiooehlcaa
open Go Go.RowKit

/-- A power of two. -/
def pw (n : Int) : Int := ((2 ^ n.toNat : Nat) : Int)
/-- Two sets put together. -/
def orI (a b : Int) : Int := ((a.toNat ||| b.toNat : Nat) : Int)
theorem pw_bd {n : Int} (h : n ≤ 8) : 1 ≤ pw n ∧ pw n ≤ 256 := by
  have h1 : 2 ^ n.toNat ≤ 2 ^ 8 := Nat.pow_le_pow_right (by omega) (by omega)
  have h2 : 0 < 2 ^ n.toNat := Nat.pow_pos (by omega)
  unfold pw; omega
theorem pw_mono {a b : Int} (h : a ≤ b) : pw a ≤ pw b := by
  have h1 : 2 ^ a.toNat ≤ 2 ^ b.toNat := Nat.pow_le_pow_right (by omega) (by omega)
  unfold pw; omega
section
variable {P : Program} {ops : Array Oper} {Q : Exit → Act → World → Prop} {N : Nat} {C : World → Prop} {rest : List Oper} {l : Sl}
variable {w0 : World} {os : List Ck} {v u z : Value} {t t' e e' : TypeId} {d : Nat} {x y : Operand} {ty : TypeId} {ps : String} {af : Array Edge} {dd : Option Tmp} {g : Option (Nat × Bool)} {m n : Int} {kk : IntKind}
theorem y_shrI (hx : Ev l x (.int .i64 m)) (hy : Ev l y (.int kk n)) (h : 0 ≤ n ∧ n ≤ 60) : Ys P C N l ⟨dd, .binOp .shr t x y t', ty, ps, af, g⟩ (.int .i64 (m / pw n)) := yl_of fun a w hs _ => by
  simp only [execOp, hx N a hs, hy N a hs, binOp_shr, shift_shr_i64 kk m n h.1 (show n ≤ 64 by omega)]
  have e1 : pw n = 2 ^ n.toNat := by unfold pw; simp
  simp [go_sem, e1]
theorem y_shlI (hx : Ev l x (.int .i64 1)) (hy : Ev l y (.int kk n)) (h : 0 ≤ n ∧ n ≤ 60) : Ys P C N l ⟨dd, .binOp .shl t x y t', ty, ps, af, g⟩ (.int .i64 (pw n)) := yl_of fun a w hs _ => by
  have e1 : (1 : Int) * 2 ^ n.toNat = pw n := by unfold pw; simp
  have h1 : 2 ^ n.toNat ≤ 2 ^ 60 := Nat.pow_le_pow_right (by omega) (by omega)
  have h3 : 0 < 2 ^ n.toNat := Nat.pow_pos (by omega)
  have h2 : In64 (pw n) := by unfold pw In64; omega
  simp only [execOp, hx N a hs, hy N a hs, binOp_shl, shift_shl_i64 kk 1 n h.1 (show n ≤ 64 by omega), e1, wrap_in h2]
  simp [go_sem]
theorem i64_and1 (n : Int) : bits .and .i64 n 1 = n % 2 := by
  have h1 : (BitVec.ofInt 64 1).toNat = 2 ^ 1 - 1 := by decide
  have key : (BitVec.ofInt 64 n &&& BitVec.ofInt 64 1).toNat = (n % ((2 ^ 64 : Nat) : Int)).toNat % 2 ^ 1 := by
    rw [BitVec.toNat_and, BitVec.toNat_ofInt, h1, Nat.and_two_pow_sub_one_eq_mod]
  show IntKind.i64.wrap ((BitVec.ofInt 64 n &&& BitVec.ofInt 64 1).toNat : Nat) = n % 2
  rw [key, IntKind.wrap_i64]
  omega
theorem y_and1 (hx : Ev l x (.int .i64 m)) (hy : Ev l y (.int .i64 1)) : Ys P C N l ⟨dd, .binOp .and t x y t', ty, ps, af, g⟩ (.int .i64 (m % 2)) := yl_of fun a w hs _ => by
  simp only [execOp, hx N a hs, hy N a hs]; simp [go_sem, i64_and1]
theorem i64_or (a b : Nat) (ha : a < 4611686018427387904) (hb : b < 4611686018427387904) : bits .or .i64 (a : Int) (b : Int) = ((a ||| b : Nat) : Int) := by
  have hx : a ||| b < 2 ^ 62 := Nat.or_lt_two_pow (by omega) (by omega)
  have h1 : (BitVec.ofInt 64 (a : Int)).toNat = a := by
    rw [BitVec.ofInt_natCast, BitVec.toNat_ofNat]; exact Nat.mod_eq_of_lt (by omega)
  have h2 : (BitVec.ofInt 64 (b : Int)).toNat = b := by
    rw [BitVec.ofInt_natCast, BitVec.toNat_ofNat]; exact Nat.mod_eq_of_lt (by omega)
  show IntKind.i64.wrap ((BitVec.ofInt 64 (a : Int) ||| BitVec.ofInt 64 (b : Int)).toNat : Int) = _
  rw [BitVec.toNat_or, h1, h2, IntKind.wrap_i64]
  omega
theorem y_orI (hx : Ev l x (.int .i64 m)) (hy : Ev l y (.int .i64 n)) (h1 : 0 ≤ m ∧ m ≤ 1000000) (h2 : 0 ≤ n ∧ n ≤ 1000000) : Ys P C N l ⟨dd, .binOp .or t x y t', ty, ps, af, g⟩ (.int .i64 (orI m n)) := yl_of fun a w hs _ => by
  obtain ⟨p, rfl⟩ : ∃ p : Nat, m = p := ⟨m.toNat, by omega⟩
  obtain ⟨q, rfl⟩ : ∃ q : Nat, n = q := ⟨n.toNat, by omega⟩
  simp only [execOp, hx N a hs, hy N a hs]; simp [go_sem, i64_or p q (by omega) (by omega), orI]
/-- A table one of whose rows is told elsewhere: its outer row reads. -/
theorem rd_tabh (i : Nat) {us : List Value} {xss : List (List Int)} {k : Nat} (hi : os[i]? = some (.tab v e e' us xss (some k))) : ∀ w, Hp w0 os w → Rd w v 1 xss.length us := fun _ hw => rd_own (hw.get i hi).1
theorem TL.storeH (i j : Nat) {k : Nat} {r : Value} {us : List Value} {xss : List (List Int)} {qs : List Int} (hij : Nat.beq i j = false) (hx : Ev l x (pt v k 1)) (hy : Ev l y r) (hT : One P t) (ho : os[i]? = some (.tab v e e' us xss (some k))) (hj : os[j]? = some (rowI e' r qs)) (hlt : k < xss.length)
    (h : TL P ops Q N (Hp w0 ((os.set i (tabI e e' v (us.set k r) (xss.set k qs))).set j nilCk)) rest l) :
    TL P ops Q N (Hp w0 os) (⟨none, .store t x y, ty, ps, af, none⟩ :: rest) l := TL.raw rfl fun a w hs hw => by
  have hne : i ≠ j := by intro e; subst e; simp at hij
  have ht := hw.get i ho
  have hrj := hw.get j hj
  have hap := hw.apart hne ho hj
  have hlen : us.length = xss.length := ht.2.1
  have h2 : a.eval x = pt v k 1 := hx N a hs
  have h1 : r.oneCell' = true := by
    rcases hrj.2 with ⟨⟨A, rfl⟩, _⟩ | ⟨g, cap, cur, rfl, _⟩ <;> rfl
  rcases ht.1.2 with ⟨_, h0⟩ | ⟨b, cap, cur, rfl, hc0, hb, hg, hnc, hcm, hcs, htk⟩
  · omega
  · have hr : w.ownsRow w0.heap.size e 1 (.slice (some ⟨b, 0, none⟩) xss.length cap) xss.length us := ⟨ht.1.1, .inr ⟨b, cap, cur, rfl, hb, hg, hnc, hcm, hcs, htk⟩⟩
    have hc : w.cell? ⟨b, k, none⟩ = us[k]? := World.ownsRow.cellAt hr k (by omega)
    rw [List.getElem?_eq_getElem (by omega)] at hc
    have hf : w.frozen? ⟨b, k, none⟩ = false := World.ownsRow.frozenAt hr k
    obtain ⟨s1, s2⟩ := World.ownsRow.stored hr k r
    have hadd : (⟨b, 0, none⟩ : Addr).add (k * 1) = ⟨b, k, none⟩ := by rw [Addr.add_lit]; simp
    have hrun := run_storeAt (P := P) (t := t) (u := r) hT hc hf h1
    simp only [pt, hadd] at h2
    have hvb : obk (.slice (some ⟨b, 0, none⟩) xss.length cap) = some b := own_obk hc0
    unfold Oper.wp
    simp only [execOp, h2, hy N a hs, Sem.run_bind, hrun, Result.andThen_ok, Sem.run_pure, Oper.upon]
    have keepR : ∀ q, obk r = some q → (w.setCell ⟨b, k, none⟩ r).heap[q]? = w.heap[q]? := fun q hq => s2.block q (hrj.lt q hq).2 (fun e => hap q (.inl (by rw [hvb]; exact e.symm)) hq)
    have gk : (us.set k r).getD k undef = r := by simp [show k < us.length by omega]
    have gxk : (xss.set k qs).getD k [] = qs := by simp [hlt]
    have gn : ∀ p, p ≠ k → (us.set k r).getD p undef = us.getD p undef := fun p hp => by simp [Ne.symm hp]
    have gxn : ∀ p, p ≠ k → (xss.set k qs).getD p [] = xss.getD p [] := fun p hp => by simp [Ne.symm hp]
    refine h _ _ hs (hw.turn2 hne ho hj s2.os s2.tape s2.output s2.size (fun p hp hn1 _ => s2.block p hp (fun e => hn1 (.inl (by rw [hvb]; exact e.symm)))) ⟨by simpa using Own.of s1, by simpa using hlen, fun p hp _ => ?_, fun p hp q hq => ?_⟩ (fun q hq => ?_))
    · by_cases hpk : p = k
      · subst hpk; rw [gk, gxk]; exact Own.keep hrj keepR
      · rw [gn p hpk, gxn p hpk]
        exact Own.keep (ht.2.2.1 p (by simpa using hp) (fun e => hpk (Option.some.inj e))) fun q hq => s2.block q (ht.lt q (.inr ⟨p, by simpa using hp, fun e => hpk (Option.some.inj e), hq⟩)).2 (fun e => (ht.2.2.2 p (by simpa using hp) q hq).1 (by rw [hvb]; exact e.symm))
    · by_cases hpk : p = k
      · subst hpk
        rw [gk] at hq
        refine ⟨fun hv => hap q (.inl hv) hq, fun m hm hmp => ?_⟩
        rw [gn m hmp]
        exact fun hm' => hap q (.inr ⟨m, by simpa using hm, fun e => hmp (Option.some.inj e), hm'⟩) hq
      · rw [gn p hpk] at hq
        have hp' : p < us.length := by simpa using hp
        refine ⟨(ht.2.2.2 p hp' q hq).1, fun m hm hmp => ?_⟩
        by_cases hmk : m = k
        · subst hmk; rw [gk]; exact fun hm' => hap q (.inr ⟨p, hp', fun e => hpk (Option.some.inj e), hq⟩) hm'
        · rw [gn m hmk]; exact (ht.2.2.2 p hp' q hq).2 m (by simpa using hm) hmp
    · rcases hq with hq | ⟨p, hp, _, hq⟩
      · exact .inl (.inl hq)
      · by_cases hpk : p = k
        · subst hpk; rw [gk] at hq; exact .inr (.inl hq)
        · rw [gn p hpk] at hq; exact .inl (.inr ⟨p, by simpa using hp, fun e => hpk (Option.some.inj e), hq⟩)
end
end Go.Proofs.Ytfhhfhiooehlcaa
