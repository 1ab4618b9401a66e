/- The law that cells of one kind are in an order, in plain Lean. -/
import Derived.Test.YtfejcghnbimedaaDoorCmp
import Derived.Test.YtfejcghnbimedaaDoorQOrd
set_option linter.unusedVariables false
set_option linter.unusedSimpArgs false
namespace Go.Proofs.YtfejcghnbimedaaDoor.Pure
open Go.RowKit Go.Proofs.YtfejcghnbimedaaDoor.PCell Go.Proofs.YtfejcghnbimedaaDoorW.PrintWords Go.Proofs.YtfejcghnbimedaaDoorW.PrintLast
open Go.Proofs.YtfejcghnbimedaaDoor.Dig Go.Proofs.YtfejcghnbimedaaDoor.Div Go.Proofs.YtfejcghnbimedaaDoor.Giv Go.Proofs.YtfejcghnbimedaaDoor.Shw Go.Proofs.YtfejcghnbimedaaDoor.Cel
theorem cmpV_trans (k n : Int) (s : ByteArray) (k' n' : Int) (s' : ByteArray) (k'' n'' : Int) (s'' : ByteArray) (h1 : (k == 2) = (k' == 2)) (h2 : (k == 2) = (k'' == 2))
    (a : cmpV k n s k' n' s' ≤ 0) (b : cmpV k' n' s' k'' n'' s'' ≤ 0) : cmpV k n s k'' n'' s'' ≤ 0 := by
  unfold cmpV at *
  by_cases h : k = 2
  · subst h
    have e1 : k' = 2 := by have : (k' == 2) = true := h1.symm.trans rfl; exact beq_iff_eq.1 this
    have e2 : k'' = 2 := by have : (k'' == 2) = true := h2.symm.trans rfl; exact beq_iff_eq.1 this
    rw [if_neg (by omega)] at a b ⊢
    exact cb_trans _ _ _ a b
  · have e0 : (k == 2) = false := beq_eq_false_iff_ne.2 h
    have e1 : k' ≠ 2 := beq_eq_false_iff_ne.1 (h1.symm.trans e0)
    have e2 : k'' ≠ 2 := beq_eq_false_iff_ne.1 (h2.symm.trans e0)
    rw [if_pos ⟨h, e1⟩] at a
    rw [if_pos ⟨e1, e2⟩] at b
    rw [if_pos ⟨h, e2⟩]
    rw [numC_le] at *
    omega
theorem CellOrders (k n : Int) (s : ByteArray) (k' n' : Int) (s' : ByteArray) (k'' n'' : Int) (s'' : ByteArray) (_ : (Lit.int .i64 k).wf = true) (wn : (Lit.int .i64 n).wf = true) (_ : s.size ≤ maxLen) (_ : (Lit.int .i64 k').wf = true) (wn' : (Lit.int .i64 n').wf = true) (_ : s'.size ≤ maxLen)
    (_ : (Lit.int .i64 k'').wf = true) (wn'' : (Lit.int .i64 n'').wf = true) (_ : s''.size ≤ maxLen) :
    ∃ f, aukletlaw03_CellOrders.f f k n s k' n' s' k'' n'' s'' = some true := by
  have hn := In.of wn
  have hn' := In.of wn'
  have hn'' := In.of wn''
  suffices h : Ev (fun f => aukletlaw03_CellOrders.f f k n s k' n' s' k'' n'' s'') true from h.rounds
  have hl : Ev (fun f => (aukletlaw03_lives.f f).bind fun t => some t) true := Ev.bind lives_spec (Ev.now _)
  have ht : Ev (fun f => aukletlaw03_CellOrders.j0 f true k n s k' n' s' k'' n'' s'') true := by
    refine Ev.step (f := fun f => (aukletlaw03_lives.f f).bind fun t => some t) (fun f => ?_) hl
    simp only [aukletlaw03_CellOrders.j0]
    rw [if_pos trivial]
  have ht1 : Ev (fun f => aukletlaw03_CellOrders.j1 f true k n s k' n' s' k'' n'' s'') true := by
    refine Ev.step (f := fun f => (aukletlaw03_lives.f f).bind fun t => some t) (fun f => ?_) hl
    simp only [aukletlaw03_CellOrders.j1]
    rw [if_pos trivial]
  have hf1 : (k == 2) = (k' == 2) → (k == 2) = (k'' == 2) → Ev (fun f => aukletlaw03_CellOrders.j1 f false k n s k' n' s' k'' n'' s'') true := by
    intro e1 e2
    refine Ev.step (f := fun f => (cell_Compare.f f k n s k' n' s').bind fun t197 => (if t197 > 0 then ((aukletlaw03_lives.f f).bind fun t198 => (some t198)) else ((cell_Compare.f f k' n' s' k'' n'' s'').bind fun t199 => (if t199 > 0 then ((aukletlaw03_lives.f f).bind fun t200 => (some t200)) else ((cell_Compare.f f k n s k'' n'' s'').bind fun t201 => (if t201 ≤ 0 then ((aukletlaw03_lives.f f).bind fun t202 => (some t202)) else (some false))))))) (fun f => ?_) ?_
    · simp only [aukletlaw03_CellOrders.j1]
      rw [if_neg (by simp)]
    · refine Ev.bind (cmpC_ev k n s k' n' s' hn hn') ?_
      by_cases a : cmpV k n s k' n' s' > 0
      · simp only [if_pos a]; exact hl
      · simp only [if_neg a]
        refine Ev.bind (cmpC_ev k' n' s' k'' n'' s'' hn' hn'') ?_
        by_cases b : cmpV k' n' s' k'' n'' s'' > 0
        · simp only [if_pos b]; exact hl
        · simp only [if_neg b]
          refine Ev.bind (cmpC_ev k n s k'' n'' s'' hn hn'') ?_
          have c := cmpV_trans k n s k' n' s' k'' n'' s'' e1 e2 (by omega) (by omega)
          simp only [if_pos c]; exact hl
  have hj : ∀ x, Ev (fun f => aukletlaw03_CellOrders.j0 f x k n s k' n' s' k'' n'' s'') true := by
    intro x
    cases x with
    | true => exact ht
    | false =>
      cases e1 : ((k == 2) != (k' == 2)) with
      | true =>
        refine Ev.step (f := fun f => aukletlaw03_CellOrders.j1 f true k n s k' n' s' k'' n'' s'') (fun f => ?_) ht1
        simp only [aukletlaw03_CellOrders.j0]
        rw [if_neg (by simp), e1, if_pos rfl]
      | false =>
        have e1' : (k == 2) = (k' == 2) := bne_eq_false_iff_eq.1 e1
        have hx : Ev (fun f => aukletlaw03_CellOrders.j1 f ((k == 2) != (k'' == 2)) k n s k' n' s' k'' n'' s'') true := by
          cases e2 : ((k == 2) != (k'' == 2)) with
          | true => exact ht1
          | false => exact hf1 e1' (bne_eq_false_iff_eq.1 e2)
        refine Ev.step (f := fun f => aukletlaw03_CellOrders.j1 f ((k == 2) != (k'' == 2)) k n s k' n' s' k'' n'' s'') (fun f => ?_) hx
        simp only [aukletlaw03_CellOrders.j0]
        rw [if_neg (by simp), e1, if_neg (by simp)]
  unfold aukletlaw03_CellOrders.f
  simp only [small_f, Option.bind_some]
  by_cases h1 : (s.size : Int) ≤ 300
  · simp only [decide_eq_true h1, if_true]
    by_cases h2 : (s'.size : Int) ≤ 300
    · simp only [decide_eq_true h2, if_true]
      by_cases h3 : (s''.size : Int) ≤ 300
      · simp only [decide_eq_true h3, if_true]
        obtain ⟨b, hb⟩ := can_ev k n s (by omega)
        obtain ⟨b', hb'⟩ := can_ev k' n' s' (by omega)
        obtain ⟨b'', hb''⟩ := can_ev k'' n'' s'' (by omega)
        refine Ev.bind hb ?_
        cases b with
        | true =>
          simp only [if_true]
          refine Ev.bind hb' ?_
          cases b' with
          | true => simp only [if_true]; exact Ev.bind hb'' (hj _)
          | false => simp only [Bool.false_eq_true, if_false]; exact ht
        | false => simp only [Bool.false_eq_true, if_false]; exact ht
      · simp only [decide_eq_false h3, Bool.false_eq_true, if_false]; exact ht
    · simp only [decide_eq_false h2, Bool.false_eq_true, if_false]; exact ht
  · simp only [decide_eq_false h1, Bool.false_eq_true, if_false]; exact ht
end Go.Proofs.YtfejcghnbimedaaDoor.Pure
