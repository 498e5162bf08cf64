/-
  The library's 128-bit product of two naturals. No condition.
-/
import Derived.Test.YtilmadapmcnlgaaCopy
import Derived.Test.YtilmadapmcnlgaaLays
import Derived.Shelf.Bits.Mul64
namespace Go.Proofs.Ytilmadapmcnlgaa
open Go Go.RowKit

def mulU (x y : Int) : Int × Int := (((x.toNat * y.toNat / 18446744073709551616 : Nat) : Int), ((x.toNat * y.toNat % 18446744073709551616 : Nat) : Int))
theorem mulU_one {n : Nat} {c : Int} (hn : n = 1) (h0 : 0 ≤ c) (h1 : c ≤ 1000000) : (mulU (n : Int) c).1 = 0 ∧ (mulU (n : Int) c).2 = c := by
  subst hn
  unfold mulU
  simp only [Int.toNat_natCast, Nat.one_mul]
  omega
theorem bits_Mul_ok (w : World) (x y : Int) (hp0 : 0 ≤ x) (hp1 : x < 18446744073709551616) (hp2 : 0 ≤ y) (hp3 : y < 18446744073709551616) :
    Calls Try.prog 117 ([(.int .u64 x), (.int .u64 y)] : List Value).toArray w (Ret (.tuple #[(.int .u64 ((mulU x y).1)), (.int .u64 ((mulU x y).2))]) (Hp w [])) := by
  have h := Any.bits_Mul lays212 x.toNat y.toNat (by omega) (by omega) w
  rw [Int.toNat_of_nonneg hp0, Int.toNat_of_nonneg hp2] at h
  refine h.mono ?_
  rintro e w' ⟨rfl, rfl⟩
  exact ⟨rfl, Hp.start _⟩
end Go.Proofs.Ytilmadapmcnlgaa
