/- The law that a cell stands as itself, and texts that look like one number stand alike, in plain Lean. -/
import Derived.Test.YtfejcghnbimedaaDoorCmp
import Derived.Test.YtfejcghnbimedaaDoorQSam
set_option linter.unusedVariables false
set_option linter.unusedSimpArgs false
namespace Go.Proofs.YtfejcghnbimedaaDoor.Pure
open Go.RowKit Go.Proofs.YtfejcghnbimedaaDoor.PCell Go.Proofs.YtfejcghnbimedaaDoorW.PrintWords Go.Proofs.YtfejcghnbimedaaDoorW.PrintLast
open Go.Proofs.YtfejcghnbimedaaDoor.Dig Go.Proofs.YtfejcghnbimedaaDoor.Div Go.Proofs.YtfejcghnbimedaaDoor.Giv Go.Proofs.YtfejcghnbimedaaDoor.Shw Go.Proofs.YtfejcghnbimedaaDoor.Cel
theorem CellSame (k n : Int) (s : ByteArray) (a : Int) (_ : (Lit.int .i64 k).wf = true) (wn : (Lit.int .i64 n).wf = true) (_ : s.size ≤ maxLen) (wa : (Lit.int .i64 a).wf = true) :
    ∃ f, aukletlaw03_CellSame.f f k n s a = some true := by
  have hn := In.of wn
  have ha := In.of wa
  suffices h : Ev (fun f => aukletlaw03_CellSame.f f k n s a) true from h.rounds
  have hl : Ev (fun f => (aukletlaw03_lives.f f).bind fun t => some t) true := Ev.bind lives_spec (Ev.now _)
  have ht : Ev (fun f => aukletlaw03_CellSame.j0 f a true k n s) true := by
    refine Ev.step (f := fun f => (aukletlaw03_lives.f f).bind fun t => some t) (fun f => ?_) hl
    simp only [aukletlaw03_CellSame.j0]
    rw [if_pos trivial]
  have hle := show_le a ha
  have hs1 : ((⟨#[32]⟩ : ByteArray) ++ showV a).size = 1 + (showV a).size := by rw [ByteArray.size_append]; rfl
  have hs2 : ((⟨#[32]⟩ : ByteArray) ++ showV a ++ (⟨#[10]⟩ : ByteArray)).size = 1 + (showV a).size + 1 := by rw [ByteArray.size_append, hs1]; rfl
  have hd : ((⟨#[32]⟩ : ByteArray) ++ showV a ++ (⟨#[10]⟩ : ByteArray)).data.toList = 32 :: (ch (showL a) ++ [10]) := by
    rw [ByteArray.data_append, ByteArray.data_append, Array.toList_append, Array.toList_append, show_list]; rfl
  have e1 := Input_f (showV a) (by omega)
  have e2 := Input_f ((⟨#[32]⟩ : ByteArray) ++ showV a ++ (⟨#[10]⟩ : ByteArray)) (by omega)
  rw [in_show a ha] at e1
  rw [in_show2 a ha _ hd] at e2
  have c0 : ∀ (i j : Int) (x y : ByteArray), i ≠ 2 → j ≠ 2 → Ev (fun f => cell_Compare.f f i a x j a y) 0 := fun i j x y hi hj => by
    have := cmpC_ev i a x j a y ha ha
    unfold cmpV at this
    rw [if_pos ⟨hi, hj⟩, numC_refl] at this
    exact this
  have hj : ∀ x, Ev (fun f => aukletlaw03_CellSame.j0 f a x k n s) true := by
    intro x
    cases x with
    | true => exact ht
    | false =>
      refine Ev.step (f := fun f => (aukletref01_Show.f f a).bind fun t207 => ((cell_Input.f t207).bind fun bt208 => (if 1 + t207.size ≤ 9223372036854775807 then (if ((⟨#[32]⟩ : ByteArray) ++ t207).size + 1 ≤ 9223372036854775807 then ((cell_Input.f (((⟨#[32]⟩ : ByteArray) ++ t207) ++ (⟨#[10]⟩ : ByteArray))).bind fun bt211 => ((cell_Compare.f f k n s k n s).bind fun t216 => (if t216 = 0 then ((cell_Compare.f f bt208.1 bt208.2.1 bt208.2.2 bt211.1 bt211.2.1 bt211.2.2).bind fun t217 => (if t217 = 0 then ((cell_OfNum.f a).bind fun bt218 => ((cell_Compare.f f bt208.1 bt208.2.1 bt208.2.2 bt218.1 bt218.2.1 bt218.2.2).bind fun t221 => (if t221 = 0 then ((cell_OfNum.f a).bind fun bt222 => ((cell_Compare.f f bt222.1 bt222.2.1 bt222.2.2 bt211.1 bt211.2.1 bt211.2.2).bind fun t225 => (if t225 = 0 then ((aukletlaw03_lives.f f).bind fun t226 => (some t226)) else (some false)))) else (some false)))) else (some false))) else (some false)))) else (none)) else (none)))) (fun f => ?_) ?_
      · simp only [aukletlaw03_CellSame.j0]
        rw [if_neg (by simp)]
      · refine Ev.bind (show_ref ha.1 ha.2) ?_
        simp only [e1, Option.bind_some, if_pos (show 1 + (showV a).size ≤ 9223372036854775807 by omega), if_pos (show ((⟨#[32]⟩ : ByteArray) ++ showV a).size + 1 ≤ 9223372036854775807 by omega)]
        simp only [e2, Option.bind_some, cell_OfNum.f]
        have cs := cmpC_ev k n s k n s hn hn
        rw [cmpV_refl] at cs
        refine Ev.bind cs ?_
        simp only [if_true]
        refine Ev.bind (c0 3 3 _ _ (by decide) (by decide)) ?_
        simp only [if_true]
        refine Ev.bind (c0 3 1 _ _ (by decide) (by decide)) ?_
        simp only [if_true]
        refine Ev.bind (c0 1 3 _ _ (by decide) (by decide)) ?_
        simp only [if_true]
        exact hl
  unfold aukletlaw03_CellSame.f
  simp only [small_f, Option.bind_some]
  by_cases h1 : (s.size : Int) ≤ 300
  · simp only [decide_eq_true h1, if_true]
    obtain ⟨b, hb⟩ := can_ev k n s (by omega)
    exact Ev.bind hb (hj _)
  · simp only [decide_eq_false h1, Bool.false_eq_true, if_false]; exact ht
end Go.Proofs.YtfejcghnbimedaaDoor.Pure
