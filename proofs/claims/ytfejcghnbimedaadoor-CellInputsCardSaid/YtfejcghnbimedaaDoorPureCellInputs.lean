/- The law on texts that come in, in plain Lean. -/
import Derived.Test.YtfejcghnbimedaaDoorCel
import Derived.Test.YtfejcghnbimedaaDoorPCellx10
set_option linter.unusedVariables false
namespace Go.Proofs.YtfejcghnbimedaaDoor.Pure
open Go.RowKit Go.Proofs.YtfejcghnbimedaaDoor.PCell Go.Proofs.YtfejcghnbimedaaDoorW.PrintWords Go.Proofs.YtfejcghnbimedaaDoorW.PrintLast
open Go.Proofs.YtfejcghnbimedaaDoor.Dig Go.Proofs.YtfejcghnbimedaaDoor.Div Go.Proofs.YtfejcghnbimedaaDoor.Giv Go.Proofs.YtfejcghnbimedaaDoor.Shw Go.Proofs.YtfejcghnbimedaaDoor.Cel
theorem can_in (s : ByteArray) (h : s.size ≤ 300) : cell_Can.f (inV s).1 (inV s).2.1 (inV s).2.2 = some true := by
  unfold cell_Can.f cell_can.f
  rw [inV_2]
  rcases inV_1 s with h3 | ⟨h2, h0⟩
  · rw [h3, if_neg (by omega), if_neg (by omega), if_neg (by omega), if_pos rfl, input_f s (by omega)]
    simp only [Option.bind_some, h3, inV_2, beq_self_eq_true, Bool.and_self]
  · rw [h2, if_neg (by omega), if_neg (by omega), if_pos rfl, h0]; rfl
theorem CellInputs : aukletlaw03_CellInputs.Pure := by
  intro s _
  suffices h : Ev (fun k => aukletlaw03_CellInputs.f k s) true from h.rounds
  unfold aukletlaw03_CellInputs.f
  by_cases hs : (s.size : Int) > 300
  · simp only [if_pos hs]
    exact Ev.bind lives_spec (Ev.now _)
  · simp only [if_neg hs]
    rw [Input_f s (by omega)]
    simp only [Option.bind_some]
    refine Ev.bind (refInput s (by omega)) ?_
    simp only [beq_self_eq_true, Bool.and_self, if_true]
    rw [can_in s (by omega)]
    simp only [Option.bind_some, cell_OfStr.f, beq_self_eq_true, Bool.and_self, if_true]
    exact Ev.bind lives_spec (Ev.now _)
end Go.Proofs.YtfejcghnbimedaaDoor.Pure
