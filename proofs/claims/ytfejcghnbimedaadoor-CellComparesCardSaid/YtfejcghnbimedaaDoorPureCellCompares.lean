/- The law on two cells held against each other, in plain Lean. -/
import Derived.Test.YtfejcghnbimedaaDoorCmp
import Derived.Test.YtfejcghnbimedaaDoorQCmp
set_option linter.unusedVariables false
set_option linter.unusedSimpArgs false
namespace Go.Proofs.YtfejcghnbimedaaDoor.Pure
open Go.RowKit Go.Proofs.YtfejcghnbimedaaDoor.PCell Go.Proofs.YtfejcghnbimedaaDoorW.PrintWords Go.Proofs.YtfejcghnbimedaaDoorW.PrintLast
open Go.Proofs.YtfejcghnbimedaaDoor.Dig Go.Proofs.YtfejcghnbimedaaDoor.Div Go.Proofs.YtfejcghnbimedaaDoor.Giv Go.Proofs.YtfejcghnbimedaaDoor.Shw Go.Proofs.YtfejcghnbimedaaDoor.Cel
theorem CellCompares (k n : Int) (s : ByteArray) (k' n' : Int) (s' : ByteArray) (_ : (Lit.int .i64 k).wf = true) (wn : (Lit.int .i64 n).wf = true) (_ : s.size ≤ maxLen) (_ : (Lit.int .i64 k').wf = true) (wn' : (Lit.int .i64 n').wf = true) (_ : s'.size ≤ maxLen) :
    ∃ f, aukletlaw03_CellCompares.f f k n s k' n' s' = some true := by
  have hn := In.of wn
  have hn' := In.of wn'
  suffices h : Ev (fun f => aukletlaw03_CellCompares.f f k n s k' n' s') true from h.rounds
  have ht : Ev (fun f => aukletlaw03_CellCompares.j0 f true k n s k' n' s') true := by
    refine Ev.step (f := fun f => (aukletlaw03_lives.f f).bind fun t => some t) (fun f => ?_) (Ev.bind lives_spec (Ev.now _))
    simp only [aukletlaw03_CellCompares.j0]
    rw [if_pos trivial]
  have hj : s.size ≤ 300 → s'.size ≤ 300 → ∀ x, Ev (fun f => aukletlaw03_CellCompares.j0 f x k n s k' n' s') true := by
    intro hs hs' x
    cases x with
    | true => exact ht
    | false =>
      have hr := cmpV_range k n s k' n' s'
      have e : wrap64 (- cmpV k n s k' n' s') = cmpV k' n' s' k n s := by rw [cmpV_neg k n s k' n' s']; exact wrap_in (by omega) (by omega)
      refine Ev.step (f := fun f => (cell_Compare.f f k n s k' n' s').bind fun t181 => ((aukletref03_Compare.f f k n s k' n' s').bind fun t182 => (if t181 = t182 then ((cell_Compare.f f k' n' s' k n s).bind fun t183 => ((aukletref03_Compare.f f k n s k' n' s').bind fun t184 => (if t183 = (wrap64 (-t184)) then ((aukletlaw03_lives.f f).bind fun t185 => (some t185)) else (some false)))) else (some false)))) (fun f => ?_) ?_
      · simp only [aukletlaw03_CellCompares.j0]
        rw [if_neg (by simp)]
      · refine Ev.bind (cmpC_ev k n s k' n' s' hn hn') (Ev.bind (cmpR_ev k n s k' n' s' hn hn' hs) ?_)
        simp only [if_true]
        refine Ev.bind (cmpC_ev k' n' s' k n s hn' hn) (Ev.bind (cmpR_ev k n s k' n' s' hn hn' hs) ?_)
        simp only [e, if_true]
        exact Ev.bind lives_spec (Ev.now _)
  unfold aukletlaw03_CellCompares.f
  simp only [small_f, Option.bind_some]
  by_cases h1 : (s.size : Int) ≤ 300
  · simp only [decide_eq_true h1, if_true]
    by_cases h2 : (s'.size : Int) ≤ 300
    · simp only [decide_eq_true h2, if_true]
      obtain ⟨b, hb⟩ := can_ev k n s (by omega)
      obtain ⟨b', hb'⟩ := can_ev k' n' s' (by omega)
      refine Ev.bind hb ?_
      cases b with
      | true => simp only [if_true]; exact Ev.bind hb' (hj (by omega) (by omega) _)
      | false => simp only [Bool.false_eq_true, if_false]; exact ht
    · simp only [decide_eq_false h2, Bool.false_eq_true, if_false]; exact ht
  · simp only [decide_eq_false h1, Bool.false_eq_true, if_false]; exact ht
end Go.Proofs.YtfejcghnbimedaaDoor.Pure
