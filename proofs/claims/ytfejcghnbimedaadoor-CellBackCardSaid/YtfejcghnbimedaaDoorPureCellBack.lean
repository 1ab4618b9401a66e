/- The law that a number's text looks like that number, in plain Lean. -/
import Derived.Test.YtfejcghnbimedaaDoorCel
set_option linter.unusedVariables false
namespace Go.Proofs.YtfejcghnbimedaaDoor.Pure
open Go.RowKit Go.Proofs.YtfejcghnbimedaaDoor.PCell Go.Proofs.YtfejcghnbimedaaDoorW.PrintWords Go.Proofs.YtfejcghnbimedaaDoorW.PrintLast
open Go.Proofs.YtfejcghnbimedaaDoor.Dig Go.Proofs.YtfejcghnbimedaaDoor.Div Go.Proofs.YtfejcghnbimedaaDoor.Giv Go.Proofs.YtfejcghnbimedaaDoor.Shw Go.Proofs.YtfejcghnbimedaaDoor.Cel
theorem CellBack : aukletlaw03_CellBack.Pure := by
  intro a wa
  have ha := In.of wa
  suffices h : Ev (fun k => aukletlaw03_CellBack.f k a) true from h.rounds
  have hs : dec_Show.f a = some (showV a) := by unfold dec_Show.f; exact if_pos ha
  have hS : cell_Str.f 1 a (⟨#[]⟩ : ByteArray) = some (showV a) := by
    unfold cell_Str.f cell_str.f
    rw [if_pos rfl, hs]; rfl
  have hle := show_le a ha
  unfold aukletlaw03_CellBack.f
  simp only [cell_OfNum.f, Option.bind_some, hS]
  refine Ev.bind (show_ref ha.1 ha.2) ?_
  simp only [if_true]
  rw [Input_f _ (by omega), in_show a ha]
  simp only [Option.bind_some, beq_self_eq_true, Bool.and_self, if_true]
  exact Ev.bind lives_spec (Ev.now _)
end Go.Proofs.YtfejcghnbimedaaDoor.Pure
