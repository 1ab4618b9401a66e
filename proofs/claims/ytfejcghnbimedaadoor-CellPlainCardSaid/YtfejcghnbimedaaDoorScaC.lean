/- Numbers of 64 bits, their sizes and signs. -/
import Derived.Test.YtfejcghnbimedaaDoorDigC
import Derived.Test.YtfejcghnbimedaaDoorGivS
import Derived.Test.YtfejcghnbimedaaDoorParse
set_option linter.unusedVariables false
set_option linter.unusedSimpArgs false
namespace Go.Proofs.YtfejcghnbimedaaDoor.Div
open Go.RowKit Go.Proofs.YtfejcghnbimedaaDoor.PCell Go.Proofs.YtfejcghnbimedaaDoorW.PrintWords Go.Proofs.YtfejcghnbimedaaDoorW.PrintLast Go.Proofs.YtfejcghnbimedaaDoor.Giv Go.Proofs.YtfejcghnbimedaaDoor.Dig

/-- An int64. -/
def In (x : Int) : Prop := -9223372036854775808 ≤ x ∧ x ≤ 9223372036854775807
theorem In.of {x : Int} (h : (Lit.int .i64 x).wf = true) : In x := by
  have h' : IntKind.i64.min ≤ x ∧ x ≤ 9223372036854775807 := by simpa [Lit.wf] using h
  have e : IntKind.i64.min = -9223372036854775808 := by decide
  unfold In
  omega

theorem absV_in {a : Int} (h : In a) : 0 ≤ absV a ∧ absV a ≤ 9223372036854775808 := by
  obtain ⟨h0, h1⟩ := h
  unfold absV; split <;> omega
theorem sgn_bk (n : Int) (m : Bool) (h : 0 ≤ n) : sgn n m = bk (if m = true then -n else n) := by
  unfold sgn bk
  cases m
  · simp only [Bool.false_eq_true, if_false]
    by_cases h1 : n ≤ 9223372036854775807
    · rw [if_pos h1, if_pos (by omega)]
    · rw [if_neg h1, if_neg (by omega)]
  · simp only [if_true]
    by_cases h1 : n ≤ 9223372036854775808
    · rw [if_pos h1, if_pos (by omega)]
    · rw [if_neg h1, if_neg (by omega)]
end Go.Proofs.YtfejcghnbimedaaDoor.Div
