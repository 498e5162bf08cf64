/-
  Strings of the library: the first place of a byte, texts joined; a string of zeros. No condition.
-/
import Derived.Test.YtcmhgkcifejgcaaStr
import Derived.Test.YtcmhgkcifejgcaaLays
import Derived.Shelf.Strings.OnBuilder
import Derived.Shelf.Small.Strs
import Derived.Laws.IdiomStrings
namespace Go.Proofs.Ytcmhgkcifejgcaa
open Go Go.RowKit
/-- The first place of a byte. -/
def idxByte (s : ByteArray) (c : Int) : Int := Lib.indexByte s.data.toList c.toNat.toUInt8
/-- Texts joined. -/
def joinB (xs : List ByteArray) (sep : ByteArray) : ByteArray := ⟨(Lib.join (xs.map (·.data.toList)) sep.data.toList).toArray⟩
/-- Zeros. -/
def zeros (n : Nat) : ByteArray := ⟨(List.replicate n (0 : UInt8)).toArray⟩
theorem extra : Builder.Extra Try.prog lays156_ren where
  sizeBuilder := by kernel_rfl
  liesBuilder := by kernel_rfl
  t5 := lays137.t5
  a5 := lays137.a5
  z5 := lays137.z5
  v5 := lays137.v5
  infoByte := by kernel_rfl
  cellsByte := by kernel_rfl
  sizeByte := by kernel_rfl
  neB5 := by decide
theorem strings_IndexByte_ok (w : World) (s : ByteArray) (c : Int) :
    Calls Try.prog 67 ([(.string s), (.int .u8 c)] : List Value).toArray w (Ret (.int .i64 (idxByte s c)) (Hp w [])) := by
  refine (Any.strings_IndexByte lays137 s c w).mono ?_
  rintro e w' ⟨rfl, rfl⟩
  exact ⟨rfl, Hp.start _⟩
/-- The address, if there is one, is that of a whole block's cell. -/
def AdN (v : Value) : Prop := ∀ ad n c, v = .slice (some ad) n c → 0 < n → ad.spot = none
theorem adn_nil : AdN (.slice none 0 0) := fun _ _ _ h => by cases h
theorem adn_row {w0 w : World} {os : List Ck} (i : Nat) {v : Value} {e : TypeId} {sz n : Nat} {xs : List Value} (hi : os[i]? = some (.row v e sz n xs)) (hw : Hp w0 os w) : AdN v := fun ad m c hv hm => by
  obtain ⟨_, ⟨⟨A, h⟩, _⟩ | ⟨g, cap, cur, h, _⟩⟩ := hw.get i hi
  · rw [h] at hv; injection hv with _ h2 _; omega
  · rw [h] at hv; injection hv with h1 _ _; injection h1 with h1; rw [← h1]
theorem strings_Join_ok (w : World) (vxs : Value) (xs : List ByteArray) (hxs : Rd w vxs 1 xs.length (strs xs)) (axs : AdN vxs) (sep : ByteArray) (hp0 : 1 ≤ xs.length) (hp1 : xs.length ≤ 1000000) (hp2 : (Lib.join (xs.map (·.data.toList)) sep.data.toList).length ≤ 140737488355328) :
    Calls Try.prog 68 ([vxs, (.string sep)] : List Value).toArray w (Ret (.string (joinB xs sep)) (Hp w [])) := by
  obtain ⟨hl, hn, A, c, rfl, hc, _, h⟩ := hxs
  obtain ⟨ad, rfl, hb, hg⟩ := h (by omega)
  obtain ⟨bk, o, k⟩ := ad
  obtain rfl : k = none := axs _ _ _ rfl (by omega)
  refine (Any.strings_Join lays156 extra bk o c xs sep w (fun j x hx => by have := hg j (.string x) (by simp [strs, hx]); simp only [Addr.add] at this; split at this <;> first | exact this | (subst_vars; simpa using this)) hb (by omega) hc hp2).mono ?_
  rintro e w' ⟨rfl, hb'⟩
  exact ⟨rfl, hb', by simp, .nil⟩
theorem y_zeros {P : Program} {N : Nat} {l : Sl} {w0 : World} {os : List Ck} {v : Value} {src dst e' e ty : TypeId} {x : Operand} {ps : String} {af : Array Edge} {dd : Option Tmp} {g : Option (Nat × Bool)} {n : Nat} (i : Nat) (hx : Ev l x v) (ho : os[i]? = some (.row v e 1 n (List.replicate n (.int .u8 0)))) (h1 : 1 ≤ n)
    (hs : P.underlying src = some (.slice e')) (he : P.underlying e' = some (.int .u8)) (hd : P.underlying dst = some .string) :
    Ys P (Hp w0 os) N l ⟨dd, .convert src dst x, ty, ps, af, g⟩ (.string (zeros n)) := yl_of fun a w hs' hw => by
  obtain ⟨hl, hn, A, c, hv, hc, _, h⟩ := rd_row i ho w hw
  obtain ⟨ad, rfl, hb, hg⟩ := h h1
  have := run_convert_bytes_back (P := P) w src dst e' ad c (List.replicate n (0 : UInt8)) hs he hd (fun j hj => by
    refine hg j _ ?_
    rw [List.length_replicate] at hj
    simp [hj])
  rw [List.length_replicate] at this
  rw [hv] at hx
  simp only [execOp, hx N a hs', Sem.run_bind, this, Result.andThen_ok, Sem.run_pure]
  rfl
theorem ba_app (a b : ByteArray) : (a ++ b).size = a.size + b.size := ByteArray.size_append
theorem join_len (sep : List UInt8) : ∀ (xs : List (List UInt8)) (m : Nat), (∀ x ∈ xs, x.length ≤ m) → (Lib.join xs sep).length ≤ xs.length * (m + sep.length)
  | [], m, _ => by simp [Lib.join]
  | [x], m, h => by
    have := h x (by simp)
    rw [Lib.join_one]; simp; omega
  | x :: y :: r, m, h => by
    have h1 := join_len sep (y :: r) m (fun z hz => h z (List.mem_cons_of_mem _ hz))
    have h2 := h x (by simp)
    have e : (Lib.join (x :: y :: r) sep).length = x.length + sep.length + (Lib.join (y :: r) sep).length := by
      rw [Lib.join_cons, Lib.join_cons]; simp [Lib.joinTail]; omega
    rw [e, List.length_cons, Nat.succ_mul]; omega
theorem join_le {xs : List ByteArray} {sep : ByteArray} (hs : ∀ i, (xs.getD i ByteArray.empty).size ≤ 100000) (hn : xs.length ≤ 100000) (h1 : sep.size = 1) : (Lib.join (xs.map (·.data.toList)) sep.data.toList).length ≤ 140737488355328 := by
  have h := join_len sep.data.toList (xs.map (·.data.toList)) 100000 (fun x hx => by
    obtain ⟨b, hb, rfl⟩ := List.mem_map.1 hx
    obtain ⟨i, hi, rfl⟩ := List.getElem_of_mem hb
    have := hs i
    rw [List.getD_eq_getElem?_getD, List.getElem?_eq_getElem hi] at this
    exact this)
  rw [List.length_map] at h
  have e : sep.data.toList.length = 1 := h1
  rw [e] at h
  have : xs.length * (100000 + 1) ≤ 100000 * (100000 + 1) := Nat.mul_le_mul_right _ hn
  omega
end Go.Proofs.Ytcmhgkcifejgcaa
