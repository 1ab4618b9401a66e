/- The law on whole numbers. -/
import Derived.Test.YtjbblmdpiapmbaaPureDecProducts
import Derived.Test.YtjbblmdpiapmbaaPDecx7
set_option linter.unusedVariables false
set_option linter.unusedSimpArgs false
namespace Go.Proofs.Ytjbblmdpiapmbaa.Pure
open Go.RowKit Go.Proofs.Ytjbblmdpiapmbaa.PDec Go.Proofs.YtjbblmdpiapmbaaW.PrintWords Go.Proofs.YtjbblmdpiapmbaaW.PrintLast
open Go.Proofs.Ytjbblmdpiapmbaa.Dig Go.Proofs.Ytjbblmdpiapmbaa.Div Go.Proofs.Ytjbblmdpiapmbaa.Giv

theorem whole_ev {a : Int} (ha : In a) : Ev (fun k => dec_Whole.f k a) (bk (sd a 1000000 1)) := by
  unfold dec_Whole.f
  exact Ev.bind (scaled_spec ha (b := 1000000) (c := 1) (by unfold In; omega) (by unfold In; omega) (by omega)) (Ev.now _)
theorem rwhole {a : Int} (ha : In a) : Ev (fun k => aukletref01_Whole.f k a) (bk (sd a 1000000 1)) := by
  obtain ⟨A, e1, e2, _, e4, _, e6⟩ := Of_spec a ha.1 ha.2
  obtain ⟨C, g1, g2, _, g4, _, g6⟩ := Of_spec 1000000 (by omega) (by omega)
  obtain ⟨R, p1, p2, p3, p4⟩ := Times_spec (decide (a < 0)) (decide ((1000000 : Int) < 0)) e2 g2 (by omega) (by omega)
  have r := Back_spec (decide (a < 0) != decide ((1000000 : Int) < 0)) p2 (by omega)
  have hv : sv (decide (a < 0) != decide ((1000000 : Int) < 0)) R = sd a 1000000 1 := by
    unfold sv sd
    rw [p3, e4, g4, ab_absV, ab_absV]
    have e : absV 1 = 1 := by decide
    rw [e, Int.ediv_one]
    have e : decide ((1 : Int) < 0) = false := by decide
    rw [e, Bool.bne_false]
  rw [hv] at r
  unfold aukletref01_Whole.f
  exact Ev.bind e1 (Ev.bind g1 (Ev.bind p1 (Ev.bind r (Ev.now _))))

/-- The whole part. -/
def wh (a : Int) : Int := if a < 0 then -(-a / 1000000 * 1000000) else a / 1000000 * 1000000
theorem wh_in {a : Int} (h : In a) : In (wh a) := by
  obtain ⟨h0, h1⟩ := h
  unfold In wh
  split <;> omega
theorem int_f {a : Int} (ha : In a) : dec_Int.f a = some (wh a) := by
  have hw := wh_in ha
  obtain ⟨h0, h1⟩ := ha
  have e : a - Int.tmod a 1000000 = wh a := by
    unfold wh
    by_cases h : a < 0
    · rw [if_pos h]
      obtain ⟨z, rfl⟩ : ∃ z, a = -z := ⟨-a, by omega⟩
      rw [Int.neg_tmod, Int.tmod_eq_emod_of_nonneg (by omega)]
      omega
    · rw [if_neg h, Int.tmod_eq_emod_of_nonneg (by omega)]; omega
  unfold dec_Int.f
  rw [e, wrap_in hw.1 hw.2]
theorem rint {a : Int} (ha : In a) : Ev (fun k => aukletref01_Int.f k a) (wh a) := by
  have hw := wh_in ha
  obtain ⟨A, e1, e2, _, e4, _, e6⟩ := Of_spec a ha.1 ha.2
  obtain ⟨C, g1, g2, _, g4, _, g6⟩ := Of_spec 1000000 (by omega) (by omega)
  have gv : val C = 1000000 := by rw [g4]; rfl
  obtain ⟨S, q1, q2, q3, q4⟩ := Over_spec (decide (a < 0)) (decide ((1000000 : Int) < 0)) e2 g2 (by omega) (by omega) (by rw [gv]; omega)
  obtain ⟨R, p1, p2, p3, p4⟩ := Times_spec (decide (a < 0) != decide ((1000000 : Int) < 0)) (decide ((1000000 : Int) < 0)) q2 g2 (by omega) (by omega)
  have r := Back_spec ((decide (a < 0) != decide ((1000000 : Int) < 0)) != decide ((1000000 : Int) < 0)) p2 (by omega)
  have hv : sv ((decide (a < 0) != decide ((1000000 : Int) < 0)) != decide ((1000000 : Int) < 0)) R = wh a := by
    have e : decide ((1000000 : Int) < 0) = false := by decide
    unfold sv wh
    rw [p3, q3, gv, e4, e, Bool.bne_false, Bool.bne_false]
    unfold ab
    by_cases h : a < 0
    · simp only [h, decide_true, if_true]
    · simp only [h, decide_false, Bool.false_eq_true, if_false]
  rw [hv] at r
  have hb : bk (wh a) = (wh a, 0) := by unfold bk; exact if_pos hw
  rw [hb] at r
  unfold aukletref01_Int.f
  exact Ev.bind e1 (Ev.bind g1 (Ev.bind q1 (Ev.bind g1 (Ev.bind p1 (Ev.bind r (Ev.now _))))))

theorem DecWholes : aukletlaw01_DecWholes.Pure := by
  intro a wa
  have ha := In.of wa
  suffices h : Ev (fun k => aukletlaw01_DecWholes.f k a) true from h.rounds
  unfold aukletlaw01_DecWholes.f
  refine Ev.bind (whole_ev ha) (Ev.bind (rwhole ha) ?_)
  simp only [int_f ha, Option.bind_some]
  refine Ev.bind (rint ha) ?_
  simp only [if_true]
  exact Ev.bind lives_spec (Ev.now _)

end Go.Proofs.Ytjbblmdpiapmbaa.Pure
