/- scaled, Mul, Div, Whole come to the true numbers, or the error; and the law's living call. -/
import Derived.Test.YtjbblmdpiapmbaaDivT
set_option linter.unusedVariables false
set_option linter.unusedSimpArgs false
namespace Go.Proofs.Ytjbblmdpiapmbaa.Div
open Go.RowKit Go.Proofs.Ytjbblmdpiapmbaa.PDec Go.Proofs.YtjbblmdpiapmbaaW.PrintWords Go.Proofs.YtjbblmdpiapmbaaW.PrintMore Go.Proofs.Ytjbblmdpiapmbaa.Giv Go.Proofs.Ytjbblmdpiapmbaa.Dig

/-- An int64. -/
def In (x : Int) : Prop := -9223372036854775808 ≤ x ∧ x ≤ 9223372036854775807
theorem In.of {x : Int} (h : (Lit.int .i64 x).wf = true) : In x := by
  have h' : IntKind.i64.min ≤ x ∧ x ≤ 9223372036854775807 := by simpa [Lit.wf] using h
  have e : IntKind.i64.min = -9223372036854775808 := by decide
  unfold In
  omega

/-- The product by the quotient, cut off towards 0. -/
def sd (a b c : Int) : Int := if (((decide (a < 0)) != (decide (b < 0))) != (decide (c < 0))) = true then -(absV a * absV b / absV c) else absV a * absV b / absV c

theorem absV_in {a : Int} (h : In a) : 0 ≤ absV a ∧ absV a ≤ 9223372036854775808 := by
  obtain ⟨h0, h1⟩ := h
  unfold absV; split <;> omega
theorem sgn_bk (n : Int) (m : Bool) (h : 0 ≤ n) : sgn n m = bk (if m = true then -n else n) := by
  unfold sgn bk
  cases m
  · simp only [Bool.false_eq_true, if_false]
    by_cases h1 : n ≤ 9223372036854775807
    · rw [if_pos h1, if_pos (by omega)]
    · rw [if_neg h1, if_neg (by omega)]
  · simp only [if_true]
    by_cases h1 : n ≤ 9223372036854775808
    · rw [if_pos h1, if_pos (by omega)]
    · rw [if_neg h1, if_neg (by omega)]
theorem signed_ev (n : Int) (m : Bool) (h0 : 0 ≤ n) (h1 : n < 18446744073709551616) : Ev (fun k => PDecB.dec_signed.f k n m) (bk (if m = true then -n else n)) := by
  rw [← sgn_bk n m h0]
  refine ⟨1, fun k hk => ?_⟩
  obtain ⟨j, rfl⟩ : ∃ j, k = j + 1 := ⟨k - 1, by omega⟩
  rw [← signed_f n m h0 h1]
  unfold PDecB.dec_signed.f
  cases m <;> simp only [PDecB.dec_signed.j0]

theorem scaled_spec {a b c : Int} (ha : In a) (hb : In b) (hc : In c) (hz : c ≠ 0) : Ev (fun k => dec_scaled.f k a b c) (bk (sd a b c)) := by
  have ⟨a0, a1⟩ := absV_in ha
  have ⟨b0, b1⟩ := absV_in hb
  have ⟨c0, c1⟩ := absV_in hc
  have cz : 1 ≤ absV c := by unfold absV; split <;> omega
  unfold dec_scaled.f
  simp only [size_f a ha.1 ha.2, size_f b hb.1 hb.2, size_f c hc.1 hc.2, Option.bind_some, mul64_spec (absV a) (absV b) a0 b0 (by omega) (by omega)]
  unfold sd
  generalize (((decide (a < 0)) != (decide (b < 0))) != (decide (c < 0))) = m
  have p0 : 0 ≤ absV a * absV b := Int.mul_nonneg a0 b0
  generalize absV a * absV b = p at *
  generalize absV c = y at *
  clear a0 a1 b0 b1
  have q0 : 0 ≤ p / y := Int.ediv_nonneg p0 c0
  by_cases h : p / 18446744073709551616 ≥ y
  · refine ⟨0, fun k _ => ?_⟩
    simp only
    rw [if_pos h]
    have hq : 18446744073709551616 ≤ p / y := by
      rw [Int.le_ediv_iff_mul_le (by omega)]
      omega
    unfold bk
    rw [if_neg (by split <;> omega)]
  · obtain ⟨r2, hd⟩ := Div64_spec (p / 18446744073709551616) (p % 18446744073709551616) y cz (by omega) (by omega) (by omega) (by omega) (by omega)
    have e : p / 18446744073709551616 * 18446744073709551616 + p % 18446744073709551616 = p := by omega
    rw [e] at hd
    have hq : p / y < 18446744073709551616 := Int.ediv_lt_of_lt_mul (by omega) (by omega)
    have hs := signed_ev (p / y) m q0 hq
    simp only [if_neg h]
    refine Ev.bind (f := fun k bt108 => (PDecB.dec_signed.f k bt108.1 m).bind fun bt110 => some (bt110.1, bt110.2)) hd ?_
    exact Ev.bind (f := fun _ bt110 => some (bt110.1, bt110.2)) hs (Ev.now _)
theorem Mul_spec {a b : Int} (ha : In a) (hb : In b) : Ev (fun k => dec_Mul.f k a b) (bk (sd a b 1000000)) := by
  unfold dec_Mul.f
  exact Ev.bind (f := fun _ bt110 => some (bt110.1, bt110.2)) (scaled_spec ha hb (c := 1000000) (by unfold In; omega) (by omega)) (Ev.now _)

theorem lives_spec : Ev (fun k => aukletlaw01_lives.f k) true := by
  have h := Mul_spec (a := 1500000) (b := 2500000) (by unfold In; omega) (by unfold In; omega)
  have e : bk (sd 1500000 2500000 1000000) = (3750000, 0) := by decide +kernel
  rw [e] at h
  unfold aukletlaw01_lives.f
  refine Ev.bind (f := fun k bt116 => (dec_Parse.f (⟨#[32, 45, 46, 53, 120]⟩ : ByteArray)).bind fun bt118 => (if bt116.1 = 3750000 then (if bt116.2 = 0 then (if bt118.1 = (-500000) then (if bt118.2.1 = 4 then (if bt118.2.2 = 0 then ((dec_Show.f bt118.1).bind fun t121 => (some (t121.toList == ([45, 48, 46, 53] : List UInt8)))) else (some false)) else (some false)) else (some false)) else (some false)) else (some false))) h ⟨0, fun k _ => ?_⟩
  have e1 : dec_Parse.f (⟨#[32, 45, 46, 53, 120]⟩ : ByteArray) = some (-500000, 4, 0) := by
    have h : parseV ⟨#[32, 45, 46, 53, 120]⟩ = (-500000, 4, 0) := by decide +kernel
    unfold dec_Parse.f
    rw [if_pos (by decide), h]
  have e2 : dec_Show.f (-500000) = some ⟨#[45, 48, 46, 53]⟩ := by
    have h : showL (-500000) = [45, 48, 46, 53] := by decide +kernel
    unfold dec_Show.f showV
    rw [if_pos (by omega), h]; rfl
  simp only [e1, Option.bind_some, if_true, e2]
  decide +kernel

end Go.Proofs.Ytjbblmdpiapmbaa.Div
