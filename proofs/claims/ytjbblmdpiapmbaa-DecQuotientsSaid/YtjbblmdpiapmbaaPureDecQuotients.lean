/- The law on quotients and rests. -/
import Derived.Test.YtjbblmdpiapmbaaScal
import Derived.Test.YtjbblmdpiapmbaaDigB
import Derived.Test.YtjbblmdpiapmbaaQQl
set_option linter.unusedVariables false
set_option linter.unusedSimpArgs false
namespace Go.Proofs.Ytjbblmdpiapmbaa.Pure
open Go.RowKit Go.Proofs.Ytjbblmdpiapmbaa.PDec Go.Proofs.Ytjbblmdpiapmbaa.PQuo Go.Proofs.YtjbblmdpiapmbaaW.PrintWords Go.Proofs.YtjbblmdpiapmbaaW.PrintLast
open Go.Proofs.Ytjbblmdpiapmbaa.Dig Go.Proofs.Ytjbblmdpiapmbaa.Div Go.Proofs.Ytjbblmdpiapmbaa.Giv

theorem ab_absV (a : Int) : ab a = absV a := rfl
theorem div_ev {a b : Int} (ha : In a) (hb : In b) (hz : b ≠ 0) : Ev (fun k => dec_Div.f k a b) (bk (sd a 1000000 b)) := by
  unfold dec_Div.f
  simp only [if_neg hz]
  exact Ev.bind (scaled_spec ha (b := 1000000) (c := b) (by unfold In; omega) hb hz) (Ev.now _)
/-- The rest with the sign of what was divided. -/
def rs (a b : Int) : Int := if a < 0 then -(absV a % absV b) else absV a % absV b
theorem tmod_rs (a b : Int) : Int.tmod a b = rs a b := by
  have key : ∀ x : Int, 0 ≤ x → Int.tmod x b = x % absV b := fun x hx => by
    unfold absV
    by_cases hb : b < 0
    · rw [if_pos hb]
      obtain ⟨z, rfl⟩ : ∃ z, b = -z := ⟨-b, by omega⟩
      rw [Int.tmod_neg, Int.neg_neg, Int.tmod_eq_emod_of_nonneg hx]
    · rw [if_neg hb, Int.tmod_eq_emod_of_nonneg hx]
  unfold rs
  by_cases ha : a < 0
  · rw [if_pos ha]
    obtain ⟨z, rfl⟩ : ∃ z, a = -z := ⟨-a, by omega⟩
    have e : absV (-z) = z := by unfold absV; rw [if_pos ha]; omega
    rw [Int.neg_tmod, key z (by omega), e]
  · rw [if_neg ha, key a (by omega)]
    have e : absV a = a := by unfold absV; rw [if_neg ha]
    rw [e]
theorem mod_f {a b : Int} (hz : b ≠ 0) : dec_Mod.f a b = some (rs a b, 0) := by
  unfold dec_Mod.f
  rw [if_neg hz]
  by_cases h : b = -1
  · rw [if_pos h]
    have e : rs a b = 0 := by unfold rs; rw [h]; have : absV (-1) = 1 := by decide
                              rw [this]; split <;> omega
    rw [e]
  · rw [if_neg h, tmod_rs]
theorem absV_pos {b : Int} (hz : b ≠ 0) : 0 < absV b := by unfold absV; split <;> omega

theorem rdiv {a b : Int} (ha : In a) (hb : In b) (hz : b ≠ 0) : Ev (fun k => aukletref01_Div.f k a b) (bk (sd a 1000000 b)) := by
  obtain ⟨A, e1, e2, _, e4, _, e6⟩ := Of_spec a ha.1 ha.2
  obtain ⟨B, f1, f2, _, f4, _, f6⟩ := Of_spec b hb.1 hb.2
  obtain ⟨C, g1, g2, _, g4, _, g6⟩ := Of_spec 1000000 (by omega) (by omega)
  obtain ⟨R, p1, p2, p3, p4⟩ := Times_spec (decide (a < 0)) (decide ((1000000 : Int) < 0)) e2 g2 (by omega) (by omega)
  obtain ⟨S, q1, q2, q3, q4⟩ := Over_spec (decide (a < 0) != decide ((1000000 : Int) < 0)) (decide (b < 0)) p2 f2 (by omega) (by omega) (by rw [f4, ab_absV]; exact absV_pos hz)
  have r := Back_spec ((decide (a < 0) != decide ((1000000 : Int) < 0)) != decide (b < 0)) q2 (by omega)
  have hv : sv ((decide (a < 0) != decide ((1000000 : Int) < 0)) != decide (b < 0)) S = sd a 1000000 b := by
    unfold sv sd
    rw [q3, p3, e4, f4, g4, ab_absV, ab_absV, ab_absV]
  rw [hv] at r
  unfold aukletref01_Div.f
  simp only [if_neg hz]
  exact Ev.bind e1 (Ev.bind g1 (Ev.bind p1 (Ev.bind f1 (Ev.bind q1 (Ev.bind r (Ev.now _))))))

theorem rmod {a b : Int} (ha : In a) (hb : In b) (hz : b ≠ 0) : Ev (fun k => aukletref01_Mod.f k a b) (rs a b, 0) := by
  obtain ⟨A, e1, e2, _, e4, e5, e6⟩ := Of_spec a ha.1 ha.2
  obtain ⟨B, f1, f2, _, f4, _, f6⟩ := Of_spec b hb.1 hb.2
  have hB := absV_pos hz
  have hA : 0 ≤ absV a := by unfold absV; split <;> omega
  obtain ⟨S, q1, q2, q3, q4⟩ := Over_spec (decide (a < 0)) (decide (b < 0)) e2 f2 (by omega) (by omega) (by rw [f4, ab_absV]; exact hB)
  obtain ⟨T, p1, p2, p3, p4⟩ := Times_spec (decide (b < 0)) (decide (a < 0) != decide (b < 0)) f2 q2 (by omega) (by omega)
  obtain ⟨m, U, u1, u2, u3, u4⟩ := Plus_spec (decide (a < 0)) (!(decide (b < 0) != (decide (a < 0) != decide (b < 0)))) e2 p2 100 (by omega) (by omega) (by omega)
  have r := Back_spec m u2 (by omega)
  have t2 := Int.emod_add_mul_ediv (absV a) (absV b)
  have r0 := Int.emod_nonneg (absV a) (show absV b ≠ 0 by omega)
  have r1 := Int.emod_lt_of_pos (absV a) hB
  have hAle := (absV_in ha).2
  have hBle := (absV_in hb).2
  have hv : sv m U = rs a b := by
    rw [u3, e5]
    have hs : (!(decide (b < 0) != (decide (a < 0) != decide (b < 0)))) = !decide (a < 0) := by
      cases decide (a < 0) <;> cases decide (b < 0) <;> rfl
    rw [hs]
    unfold sv rs
    rw [p3, q3, e4, f4, ab_absV, ab_absV]
    generalize absV b * (absV a / absV b) = P at *
    generalize absV a % absV b = Q at *
    unfold absV at t2
    by_cases hn : a < 0
    · simp only [hn, decide_true, Bool.not_true, Bool.false_eq_true, if_false, if_true]
      rw [if_pos hn] at t2
      omega
    · simp only [hn, decide_false, Bool.not_false, if_true, if_false]
      rw [if_neg hn] at t2
      omega
  have hin : In (rs a b) := by
    unfold In rs
    split <;> omega
  have hbk : bk (rs a b) = (rs a b, 0) := by unfold bk; exact if_pos hin
  rw [hv, hbk] at r
  unfold aukletref01_Mod.f
  simp only [if_neg hz]
  exact Ev.bind e1 (Ev.bind f1 (Ev.bind e1 (Ev.bind f1 (Ev.bind q1 (Ev.bind p1 (Ev.bind u1 r))))))

theorem DecQuotients : aukletlaw01_DecQuotients.Pure := by
  intro a b wa wb
  have ha := In.of wa
  have hb := In.of wb
  suffices h : Ev (fun k => aukletlaw01_DecQuotients.f k a b) true from h.rounds
  have hl : Ev (fun k => (aukletlaw01_lives.f k).bind fun t => some t) true := Ev.bind lives_spec (Ev.now _)
  unfold aukletlaw01_DecQuotients.f
  by_cases hz : b = 0
  · subst hz
    have h1 : ∀ k, dec_Div.f k a 0 = some (0, 11) := fun k => by unfold dec_Div.f; rw [if_pos rfl]
    have h2 : ∀ k, aukletref01_Div.f k a 0 = some (0, 11) := fun k => by unfold aukletref01_Div.f; rw [if_pos rfl]
    have h3 : dec_Mod.f a 0 = some (0, 11) := by unfold dec_Mod.f; rw [if_pos rfl]
    have h4 : ∀ k, aukletref01_Mod.f k a 0 = some (0, 11) := fun k => by unfold aukletref01_Mod.f; rw [if_pos rfl]
    simp only [h1, h2, h3, h4, Option.bind_some, if_true]
    exact hl
  · refine Ev.bind (div_ev ha hb hz) (Ev.bind (rdiv ha hb hz) ?_)
    simp only [mod_f hz, Option.bind_some]
    refine Ev.bind (rmod ha hb hz) ?_
    simp only [if_true]
    exact hl

end Go.Proofs.Ytjbblmdpiapmbaa.Pure
