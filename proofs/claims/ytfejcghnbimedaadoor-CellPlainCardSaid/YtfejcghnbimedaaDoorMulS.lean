/- The product of two words of 64 bits is the true product, in two words. -/
import Derived.Test.YtfejcghnbimedaaDoorPDecBx1
import Derived.Lib.Mul64
import Derived.Laws.MathBits
set_option linter.unusedVariables false
set_option linter.unusedSimpArgs false
namespace Go.Proofs.YtfejcghnbimedaaDoor.Giv
open Go.RowKit Go.Proofs.YtfejcghnbimedaaDoor.PDecB Go.Proofs.YtfejcghnbimedaaDoorW.PrintWords

theorem w64 (x : Int) : IntKind.u64.wrap x = x % 18446744073709551616 := by
  simp only [IntKind.wrap, IntKind.signed, IntKind.bits]
  simp
theorem w64_in {x : Int} (h0 : 0 ≤ x) (h1 : x < 18446744073709551616) : IntKind.u64.wrap x = x := by rw [w64]; omega
theorem w64_nat {n : Nat} (h : n < 18446744073709551616) : IntKind.u64.wrap (n : Int) = (n : Int) := w64_in (by omega) (by omega)

theorem mul64_nat (x y : Nat) (hx : x < 18446744073709551616) (hy : y < 18446744073709551616) : bits_Mul64.f (x : Int) (y : Int) = some (((x * y / 18446744073709551616 : Nat) : Int), ((x * y % 18446744073709551616 : Nat) : Int)) := by
  obtain ⟨h1, h2, h3, h4⟩ := Lib.mul64_hi x y hx hy
  have hb := Lib.half_mul_le (a := x / 4294967296) (b := y % 4294967296) (by omega) (by omega)
  have hc := Lib.half_mul_le (a := x % 4294967296) (b := y / 4294967296) (by omega) (by omega)
  have hd := Lib.half_mul_le (a := x / 4294967296) (b := y / 4294967296) (by omega) (by omega)
  have ex : (x : Int) / 4294967296 = ((x / 4294967296 : Nat) : Int) := by omega
  have ey : (y : Int) / 4294967296 = ((y / 4294967296 : Nat) : Int) := by omega
  have ax : bits .and .u64 (x : Int) 4294967295 = ((x % 4294967296 : Nat) : Int) := by rw [and_low32 _ (by omega) (by omega)]; omega
  have ay : bits .and .u64 (y : Int) 4294967295 = ((y % 4294967296 : Nat) : Int) := by rw [and_low32 _ (by omega) (by omega)]; omega
  unfold bits_Mul64.f
  rw [ex, ey, ax, ay]
  have exy : (x : Int) * (y : Int) = ((x * y : Nat) : Int) := (Int.natCast_mul _ _).symm
  rw [exy]
  generalize x / 4294967296 = x1 at *
  generalize y / 4294967296 = y1 at *
  generalize x % 4294967296 = x0 at *
  generalize y % 4294967296 = y0 at *
  have m1 : (x1 : Int) * (y1 : Int) = ((x1 * y1 : Nat) : Int) := (Int.natCast_mul _ _).symm
  have m2 : (x1 : Int) * (y0 : Int) = ((x1 * y0 : Nat) : Int) := (Int.natCast_mul _ _).symm
  have m3 : (x0 : Int) * (y0 : Int) = ((x0 * y0 : Nat) : Int) := (Int.natCast_mul _ _).symm
  have m4 : (x0 : Int) * (y1 : Int) = ((x0 * y1 : Nat) : Int) := (Int.natCast_mul _ _).symm
  rw [m1, m2, m3, m4]
  clear m1 m2 m3 m4 ex ey ax ay exy
  generalize x1 * y1 = a at *
  generalize x1 * y0 = b at *
  generalize x0 * y0 = c at *
  generalize x0 * y1 = d at *
  generalize x * y = P at *
  rw [w64_nat (n := c) (by omega), w64_nat (n := b) (by omega), w64_nat (n := a) (by omega), w64_nat (n := d) (by omega)]
  have e1 : IntKind.u64.wrap ((b : Int) + (c : Int) / 4294967296) = ((b + c / 4294967296 : Nat) : Int) := by rw [w64_in (by omega) (by omega)]; omega
  rw [e1]
  rw [and_low32 _ (by omega) (by omega)]
  have e2 : IntKind.u64.wrap (((b + c / 4294967296 : Nat) : Int) % 4294967296 + (d : Int)) = (((b + c / 4294967296) % 4294967296 + d : Nat) : Int) := by rw [w64_in (by omega) (by omega)]; omega
  rw [e2]
  rw [w64_in (x := (a : Int) + ((b + c / 4294967296 : Nat) : Int) / 4294967296) (by omega) (by omega), w64_in (by omega) (by omega), w64]
  congr 2
  omega

theorem mul64_spec (x y : Int) (hx0 : 0 ≤ x) (hy0 : 0 ≤ y) (hx : x < 18446744073709551616) (hy : y < 18446744073709551616) : bits_Mul64.f x y = some (x * y / 18446744073709551616, x * y % 18446744073709551616) := by
  obtain ⟨a, rfl⟩ := Int.eq_ofNat_of_zero_le hx0
  obtain ⟨b, rfl⟩ := Int.eq_ofNat_of_zero_le hy0
  rw [mul64_nat a b (by omega) (by omega), ← Int.natCast_mul]
  generalize a * b = P
  congr 2 <;> omega

end Go.Proofs.YtfejcghnbimedaaDoor.Giv
