/- The law on cells as plain values, in plain Lean. -/
import Derived.Test.YtfejcghnbimedaaDoorCmp
import Derived.Test.YtfejcghnbimedaaDoorQPla
set_option linter.unusedVariables false
set_option linter.unusedSimpArgs false
namespace Go.Proofs.YtfejcghnbimedaaDoor.Pure
open Go.RowKit Go.Proofs.YtfejcghnbimedaaDoor.PCell Go.Proofs.YtfejcghnbimedaaDoorW.PrintWords Go.Proofs.YtfejcghnbimedaaDoorW.PrintLast
open Go.Proofs.YtfejcghnbimedaaDoor.Dig Go.Proofs.YtfejcghnbimedaaDoor.Div Go.Proofs.YtfejcghnbimedaaDoor.Giv Go.Proofs.YtfejcghnbimedaaDoor.Shw Go.Proofs.YtfejcghnbimedaaDoor.Cel
/-- What is a cell. -/
def canB (k n : Int) (s : ByteArray) : Bool :=
  if k = 0 then (if n = 0 then (s.toList == ([] : List UInt8)) else false) else if k = 1 then (s.toList == ([] : List UInt8)) else if k = 2 then (n == 0) else if k = 3 then ((inV s).1 == k && ((inV s).2.1 == n && ((inV s).2.2.toList == s.toList))) else false
theorem can_c (k n : Int) (s : ByteArray) (hs : s.size ≤ 300) : cell_can.f k n s = some (canB k n s) := by
  unfold cell_can.f canB
  rw [input_f s (by omega)]
  by_cases h0 : k = 0
  · simp only [if_pos h0]; by_cases hn : n = 0
    · simp only [if_pos hn]
    · simp only [if_neg hn]
  · simp only [if_neg h0]
    by_cases h1 : k = 1
    · simp only [if_pos h1]
    · simp only [if_neg h1]
      by_cases h2 : k = 2
      · simp only [if_pos h2]
      · simp only [if_neg h2]
        by_cases h3 : k = 3
        · simp only [if_pos h3]; rfl
        · simp only [if_neg h3]
theorem can_r (k n : Int) (s : ByteArray) (hs : s.size ≤ 300) : Ev (fun f => aukletref03_Can.f f k n s) (canB k n s) := by
  have hI : Ev (fun f => (aukletref03_Input.f f s).bind fun bt => some (bt.1 == k && (bt.2.1 == n && (bt.2.2.toList == s.toList)))) ((inV s).1 == k && ((inV s).2.1 == n && ((inV s).2.2.toList == s.toList))) := Ev.bind (refInput s hs) (Ev.now _)
  unfold aukletref03_Can.f canB
  by_cases h0 : k = 0
  · simp only [if_pos h0, if_neg (show ¬ k = 1 by omega), if_neg (show ¬ k = 2 by omega), if_neg (show ¬ k = 3 by omega)]
    by_cases hn : n = 0
    · simp only [if_pos hn]
      by_cases he : s.toList = ([] : List UInt8)
      · simp only [if_pos he]; rw [beq_iff_eq.2 he]; exact Ev.now _
      · simp only [if_neg he]; rw [beq_eq_false_iff_ne.2 he]; exact Ev.now _
    · simp only [if_neg hn]; exact Ev.now _
  · simp only [if_neg h0]
    by_cases h1 : k = 1
    · simp only [if_pos h1, if_neg (show ¬ k = 2 by omega), if_neg (show ¬ k = 3 by omega)]
      by_cases he : s.toList = ([] : List UInt8)
      · simp only [if_pos he]; rw [beq_iff_eq.2 he]; exact Ev.now _
      · simp only [if_neg he]; rw [beq_eq_false_iff_ne.2 he]; exact Ev.now _
    · simp only [if_neg h1]
      by_cases h2 : k = 2
      · simp only [if_pos h2, if_neg (show ¬ k = 3 by omega)]
        by_cases hn : n = 0
        · simp only [if_pos hn]; rw [beq_iff_eq.2 hn]; exact Ev.now _
        · simp only [if_neg hn]; rw [beq_eq_false_iff_ne.2 hn]; exact Ev.now _
      · simp only [if_neg h2]
        by_cases h3 : k = 3
        · simp only [if_pos h3]; exact hI
        · simp only [if_neg h3]; exact Ev.now _
def anyR (k n : Int) (s : ByteArray) : Int := if canB k n s = false then 0 else if k = 0 then 0 else if k = 1 then 1 else if k = 2 then 2 else 3
theorem any_f (k n : Int) (s : ByteArray) (hs : s.size ≤ 300) : cell_Any.f k n s = some (anyR k n s) := by
  unfold cell_Any.f
  rw [can_c k n s hs]; rfl
/-- A cell comes back, and is nil where it is nothing. -/
theorem from_any (k n : Int) (s : ByteArray) (hs : s.size ≤ 300) (h : canB k n s = true) :
    ∃ k' n' s', cell_FromV.f (anyR k n s) k n s = some (k', n', s', true) ∧ (k' == k && (n' == n && (s'.toList == s.toList))) = true ∧ ((anyR k n s == 0) == (k == 0)) = true := by
  unfold anyR
  rw [if_neg (by simp [h])]
  have e0 : (⟨#[]⟩ : ByteArray).toList = ([] : List UInt8) := by decide +kernel
  by_cases h0 : k = 0
  · rw [if_pos h0]
    refine ⟨0, 0, ⟨#[]⟩, by unfold cell_FromV.f; rw [if_pos rfl], ?_, ?_⟩
    · unfold canB at h
      rw [if_pos h0] at h
      by_cases hn : n = 0
      · rw [if_pos hn, beq_iff_eq] at h
        rw [h0, hn, h, e0]; rfl
      · rw [if_neg hn] at h; cases h
    · rw [h0]; rfl
  · rw [if_neg h0]
    have ek : (k == 0) = false := beq_eq_false_iff_ne.2 h0
    by_cases h1 : k = 1
    · rw [if_pos h1]
      refine ⟨1, n, ⟨#[]⟩, by unfold cell_FromV.f; rw [if_neg (by decide), if_pos rfl]; rfl, ?_, by rw [ek]; rfl⟩
      unfold canB at h
      rw [if_neg h0, if_pos h1, beq_iff_eq] at h
      rw [h1, h, e0]; simp
    · rw [if_neg h1]
      by_cases h2 : k = 2
      · rw [if_pos h2]
        refine ⟨2, 0, s, by unfold cell_FromV.f; rw [if_neg (by decide), if_neg (by decide), if_pos rfl]; rfl, ?_, by rw [ek]; rfl⟩
        unfold canB at h
        rw [if_neg h0, if_neg h1, if_pos h2, beq_iff_eq] at h
        rw [h2, h]; simp
      · rw [if_neg h2]
        have h3 : k = 3 := by
          unfold canB at h
          rw [if_neg h0, if_neg h1, if_neg h2] at h
          by_cases h3 : k = 3
          · exact h3
          · rw [if_neg h3] at h; cases h
        refine ⟨k, n, s, ?_, by simp, by rw [ek]; rfl⟩
        unfold cell_FromV.f cell_FromC.f
        rw [if_neg (by decide), if_neg (by decide), if_neg (by decide), if_pos h3, can_c k n s hs, h, if_pos rfl]
theorem CellPlain (k n : Int) (s : ByteArray) (m : Int) (u : ByteArray) (_ : (Lit.int .i64 k).wf = true) (_ : (Lit.int .i64 n).wf = true) (_ : s.size ≤ maxLen) (_ : (Lit.int .i64 m).wf = true) (_ : u.size ≤ maxLen) :
    ∃ f, aukletlaw03_CellPlain.f f k n s m u = some true := by
  suffices h : Ev (fun f => aukletlaw03_CellPlain.f f k n s m u) true from h.rounds
  have hl : Ev (fun f => (aukletlaw03_lives.f f).bind fun t => some t) true := Ev.bind lives_spec (Ev.now _)
  have ht : Ev (fun f => aukletlaw03_CellPlain.j0 f m u true k n s) true := by
    refine Ev.step (f := fun f => (aukletlaw03_lives.f f).bind fun t => some t) (fun f => ?_) hl
    simp only [aukletlaw03_CellPlain.j0]
    rw [if_pos trivial]
  have hf : s.size ≤ 300 → Ev (fun f => aukletlaw03_CellPlain.j0 f m u false k n s) true := by
    intro hs
    have e0 : ((⟨#[]⟩ : ByteArray).toList == ([] : List UInt8)) = true := by decide +kernel
    obtain ⟨K1, hK1⟩ := can_r k n s hs
    obtain ⟨K2, hK2⟩ := lives_spec
    refine ⟨K1 + K2 + 1, fun f hf => ?_⟩
    obtain ⟨j, rfl⟩ : ∃ j, f = j + 1 := ⟨f - 1, by omega⟩
    have c1 : aukletref03_Can.f j k n s = some (canB k n s) := hK1 j (by omega)
    have c2 : aukletlaw03_lives.f j = some true := hK2 j (by omega)
    simp only [aukletlaw03_CellPlain.j0]
    rw [if_neg (by simp), any_f k n s hs]
    simp only [Option.bind_some]
    cases hc : canB k n s with
    | true =>
      obtain ⟨k', n', s', q1, q2, q3⟩ := from_any k n s hs hc
      have q4 : cell_FromC.f 1 m (⟨#[]⟩ : ByteArray) = some (0, 0, (⟨#[]⟩ : ByteArray), false) := by unfold cell_FromC.f; rw [if_neg (by decide)]
      rw [q1]
      simp only [Option.bind_some, c1, hc, if_true, cell_FromN.f, cell_FromS.f, cell_FromI.f, q4, cell_OfNum.f, cell_OfStr.f, beq_self_eq_true, Bool.not_true, Bool.or_self, Bool.false_eq_true, if_false, e0, q2, q3, c2]
    | false =>
      have ha : anyR k n s = 0 := by unfold anyR; rw [if_pos hc]
      have q1 : cell_FromV.f 0 k n s = some (0, 0, (⟨#[]⟩ : ByteArray), true) := by unfold cell_FromV.f; rw [if_pos rfl]
      rw [ha, q1]
      simp only [Option.bind_some, c1, hc, Bool.false_eq_true, if_false, if_true, c2]
  unfold aukletlaw03_CellPlain.f
  simp only [small_f, Option.bind_some]
  by_cases h1 : (s.size : Int) ≤ 300
  · simp only [decide_eq_true h1, if_true]
    cases hd : decide ((u.size : Int) > 300) with
    | true => exact ht
    | false => exact hf (by omega)
  · simp only [decide_eq_false h1, Bool.false_eq_true, if_false]; exact ht
end Go.Proofs.YtfejcghnbimedaaDoor.Pure
