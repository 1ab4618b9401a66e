/- The law on products. -/
import Derived.Test.YtjbblmdpiapmbaaScal
import Derived.Test.YtjbblmdpiapmbaaDigB
set_option linter.unusedVariables false
set_option linter.unusedSimpArgs false
namespace Go.Proofs.Ytjbblmdpiapmbaa.Pure
open Go.RowKit Go.Proofs.Ytjbblmdpiapmbaa.PDec Go.Proofs.YtjbblmdpiapmbaaW.PrintWords Go.Proofs.YtjbblmdpiapmbaaW.PrintLast
open Go.Proofs.Ytjbblmdpiapmbaa.Dig Go.Proofs.Ytjbblmdpiapmbaa.Div Go.Proofs.Ytjbblmdpiapmbaa.Giv

theorem ab_absV (a : Int) : ab a = absV a := rfl
theorem rmul {a b : Int} (ha : In a) (hb : In b) : Ev (fun k => aukletref01_Mul.f k a b) (bk (sd a b 1000000)) := by
  obtain ⟨A, e1, e2, _, e4, _, e6⟩ := Of_spec a ha.1 ha.2
  obtain ⟨B, f1, f2, _, f4, _, f6⟩ := Of_spec b hb.1 hb.2
  obtain ⟨C, g1, g2, _, g4, _, g6⟩ := Of_spec 1000000 (by omega) (by omega)
  obtain ⟨R, p1, p2, p3, p4⟩ := Times_spec (decide (a < 0)) (decide (b < 0)) e2 f2 (by omega) (by omega)
  have gv : val C = 1000000 := by rw [g4]; rfl
  obtain ⟨S, q1, q2, q3, q4⟩ := Over_spec (decide (a < 0) != decide (b < 0)) (decide ((1000000 : Int) < 0)) p2 g2 (by omega) (by omega) (by rw [gv]; omega)
  have r := Back_spec ((decide (a < 0) != decide (b < 0)) != decide ((1000000 : Int) < 0)) q2 (by omega)
  have hv : sv ((decide (a < 0) != decide (b < 0)) != decide ((1000000 : Int) < 0)) S = sd a b 1000000 := by
    unfold sv sd
    rw [q3, p3, e4, f4, g4, ab_absV, ab_absV, ab_absV]
  rw [hv] at r
  unfold aukletref01_Mul.f
  exact Ev.bind e1 (Ev.bind f1 (Ev.bind p1 (Ev.bind g1 (Ev.bind q1 (Ev.bind r (Ev.now _))))))

theorem DecProducts : aukletlaw01_DecProducts.Pure := by
  intro a b wa wb
  have ha := In.of wa
  have hb := In.of wb
  suffices h : Ev (fun k => aukletlaw01_DecProducts.f k a b) true from h.rounds
  unfold aukletlaw01_DecProducts.f
  refine Ev.bind (Mul_spec ha hb) (Ev.bind (rmul ha hb) ?_)
  simp only [if_true]
  exact Ev.bind lives_spec (Ev.now _)

end Go.Proofs.Ytjbblmdpiapmbaa.Pure
