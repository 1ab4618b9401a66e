/- The law on the rest. -/
import Derived.Test.YtjbblmdpiapmbaaScal
import Derived.Test.YtjbblmdpiapmbaaQRst
set_option linter.unusedVariables false
set_option linter.unusedSimpArgs false
namespace Go.Proofs.Ytjbblmdpiapmbaa.Rst
open Go.RowKit Go.Proofs.Ytjbblmdpiapmbaa.PDec Go.Proofs.YtjbblmdpiapmbaaW.PrintWords Go.Proofs.YtjbblmdpiapmbaaW.PrintLast
open Go.Proofs.Ytjbblmdpiapmbaa.Dig Go.Proofs.Ytjbblmdpiapmbaa.Div Go.Proofs.Ytjbblmdpiapmbaa.Giv

theorem div_ev {a b : Int} (ha : In a) (hb : In b) (hz : b ≠ 0) : Ev (fun k => dec_Div.f k a b) (bk (sd a 1000000 b)) := by
  unfold dec_Div.f
  simp only [if_neg hz]
  exact Ev.bind (scaled_spec ha (b := 1000000) (c := b) (by unfold In; omega) hb hz) (Ev.now _)
/-- The rest with the sign of what was divided. -/
def rs (a b : Int) : Int := if a < 0 then -(absV a % absV b) else absV a % absV b
theorem tmod_rs (a b : Int) : Int.tmod a b = rs a b := by
  have key : ∀ x : Int, 0 ≤ x → Int.tmod x b = x % absV b := fun x hx => by
    unfold absV
    by_cases hb : b < 0
    · rw [if_pos hb]
      obtain ⟨z, rfl⟩ : ∃ z, b = -z := ⟨-b, by omega⟩
      rw [Int.tmod_neg, Int.neg_neg, Int.tmod_eq_emod_of_nonneg hx]
    · rw [if_neg hb, Int.tmod_eq_emod_of_nonneg hx]
  unfold rs
  by_cases ha : a < 0
  · rw [if_pos ha]
    obtain ⟨z, rfl⟩ : ∃ z, a = -z := ⟨-a, by omega⟩
    have e : absV (-z) = z := by unfold absV; rw [if_pos ha]; omega
    rw [Int.neg_tmod, key z (by omega), e]
  · rw [if_neg ha, key a (by omega)]
    have e : absV a = a := by unfold absV; rw [if_neg ha]
    rw [e]
theorem mod_f {a b : Int} (hz : b ≠ 0) : dec_Mod.f a b = some (rs a b, 0) := by
  unfold dec_Mod.f
  rw [if_neg hz]
  by_cases h : b = -1
  · rw [if_pos h]
    have e : rs a b = 0 := by unfold rs; rw [h]; have : absV (-1) = 1 := by decide
                              rw [this]; split <;> omega
    rw [e]
  · rw [if_neg h, tmod_rs]

theorem add_f {a b : Int} (ha : In a) (hb : In b) : dec_Add.f a b = some (bk (a + b)) := by
  obtain ⟨a0, a1⟩ := ha
  obtain ⟨b0, b1⟩ := hb
  unfold dec_Add.f bk
  by_cases h : b > 0
  · rw [if_pos h, wrap_in (x := 9223372036854775807 - b) (by omega) (by omega)]
    by_cases h2 : a > 9223372036854775807 - b
    · rw [if_pos h2, if_neg (by omega)]
    · rw [if_neg h2, if_neg (by omega), if_pos (by omega), wrap_in (by omega) (by omega)]
  · rw [if_neg h]
    by_cases h1 : b < 0
    · rw [if_pos h1, wrap_in (x := -9223372036854775808 - b) (by omega) (by omega)]
      by_cases h2 : a < -9223372036854775808 - b
      · rw [if_pos h2, if_neg (by omega)]
      · rw [if_neg h2, if_pos (by omega), wrap_in (by omega) (by omega)]
    · rw [if_neg h1, if_pos (by omega), wrap_in (by omega) (by omega)]
/-- The whole part. -/
def wh (a : Int) : Int := if a < 0 then -(-a / 1000000 * 1000000) else a / 1000000 * 1000000
theorem wh_in {a : Int} (h : In a) : In (wh a) := by
  obtain ⟨h0, h1⟩ := h
  unfold In wh
  split <;> omega
theorem int_f {a : Int} (ha : In a) : dec_Int.f a = some (wh a) := by
  have hw := wh_in ha
  obtain ⟨h0, h1⟩ := ha
  have e : a - Int.tmod a 1000000 = wh a := by
    unfold wh
    by_cases h : a < 0
    · rw [if_pos h]
      obtain ⟨z, rfl⟩ : ∃ z, a = -z := ⟨-a, by omega⟩
      rw [Int.neg_tmod, Int.tmod_eq_emod_of_nonneg (by omega)]
      omega
    · rw [if_neg h, Int.tmod_eq_emod_of_nonneg (by omega)]; omega
  unfold dec_Int.f
  rw [e, wrap_in hw.1 hw.2]

theorem back_mul {a b : Int} (hz : b ≠ 0) : sd (wh (sd a 1000000 b)) b 1000000 = (if a < 0 then -(absV a / absV b * absV b) else absV a / absV b * absV b) := by
  have hB : 0 < absV b := by unfold absV; split <;> omega
  have hA : 0 ≤ absV a := by unfold absV; split <;> omega
  have d0 : decide ((1000000 : Int) < 0) = false := by decide
  have a0 : absV 1000000 = 1000000 := by decide
  obtain ⟨Q, hQ⟩ : ∃ Q, Q = absV a * 1000000 / absV b := ⟨_, rfl⟩
  have hQ0 : 0 ≤ Q := by rw [hQ]; exact Int.ediv_nonneg (by omega) (by omega)
  have hQd : Q / 1000000 = absV a / absV b := by
    rw [hQ, Int.ediv_ediv_of_nonneg (by omega), Int.mul_ediv_mul_of_pos_left _ _ (by omega)]
  have hs : sd a 1000000 b = if (decide (a < 0) != decide (b < 0)) = true then -Q else Q := by
    unfold sd; rw [d0, a0, ← hQ, Bool.bne_false]
  obtain ⟨D, hD⟩ : ∃ D, D = absV a / absV b := ⟨_, rfl⟩
  rw [← hD] at hQd ⊢
  have hD0 : 0 ≤ D := by omega
  have hw : wh (sd a 1000000 b) = if (decide (a < 0) != decide (b < 0)) = true then -(D * 1000000) else D * 1000000 := by
    rw [hs]
    unfold wh
    cases (decide (a < 0) != decide (b < 0))
    · simp only [Bool.false_eq_true, if_false]
      rw [if_neg (by omega), hQd]
    · simp only [if_true, Int.neg_neg]
      split
      · rw [hQd]
      · have : Q = 0 := by omega
        have : D = 0 := by omega
        omega
  rw [hw]
  have hd : D * 1000000 * absV b / 1000000 = D * absV b := by rw [Int.mul_right_comm]; exact Int.mul_ediv_cancel _ (by omega)
  unfold sd
  rw [d0, a0, Bool.bne_false]
  by_cases hz0 : D = 0
  · subst hz0
    have e : (if (decide (a < 0) != decide (b < 0)) = true then -((0 : Int) * 1000000) else 0 * 1000000) = 0 := by split <;> omega
    rw [e]
    have e2 : absV 0 * absV b / 1000000 = 0 := by have : absV 0 = 0 := by decide
                                                  rw [this, Int.zero_mul]; omega
    rw [e2]
    rw [Int.zero_mul]
    split <;> split <;> rfl
  · by_cases h1 : a < 0 <;> by_cases h2 : b < 0 <;> simp only [h1, h2, decide_true, decide_false, bne_self_eq_false, Bool.false_eq_true, if_false, if_true, Bool.true_bne, Bool.false_bne, Bool.not_false, Bool.not_true]
    · have hd1 : decide (D * 1000000 < 0) = false := decide_eq_false (by omega)
      have e : absV (D * 1000000) = D * 1000000 := by unfold absV; rw [if_neg (by omega)]
      rw [hd1, e, hd]; rfl
    · have hd1 : decide (-(D * 1000000) < 0) = true := decide_eq_true (by omega)
      have e : absV (-(D * 1000000)) = D * 1000000 := by unfold absV; rw [if_pos (by omega)]; omega
      rw [hd1, e, hd]; rfl
    · have hd1 : decide (-(D * 1000000) < 0) = true := decide_eq_true (by omega)
      have e : absV (-(D * 1000000)) = D * 1000000 := by unfold absV; rw [if_pos (by omega)]; omega
      rw [hd1, e, hd]; rfl
    · have hd1 : decide (D * 1000000 < 0) = false := decide_eq_false (by omega)
      have e : absV (D * 1000000) = D * 1000000 := by unfold absV; rw [if_neg (by omega)]
      rw [hd1, e, hd]; rfl

end Go.Proofs.Ytjbblmdpiapmbaa.Rst
namespace Go.Proofs.Ytjbblmdpiapmbaa.Pure
open Go.RowKit Go.Proofs.Ytjbblmdpiapmbaa.PDec Go.Proofs.YtjbblmdpiapmbaaW.PrintWords Go.Proofs.YtjbblmdpiapmbaaW.PrintLast
open Go.Proofs.Ytjbblmdpiapmbaa.Dig Go.Proofs.Ytjbblmdpiapmbaa.Div Go.Proofs.Ytjbblmdpiapmbaa.Giv Go.Proofs.Ytjbblmdpiapmbaa.Rst

theorem DecRests : aukletlaw01_DecRests.Pure := by
  intro a b wa wb
  have ha := In.of wa
  have hb := In.of wb
  suffices h : Ev (fun k => aukletlaw01_DecRests.f k a b) true from h.rounds
  have hl : Ev (fun k => (aukletlaw01_lives.f k).bind fun t => some t) true := Ev.bind lives_spec (Ev.now _)
  by_cases hz : b = 0
  · subst hz
    have hd : ∀ k, dec_Div.f k a 0 = some (0, 11) := fun k => by unfold dec_Div.f; rw [if_pos rfl]
    have hm : dec_Mod.f a 0 = some (0, 11) := by unfold dec_Mod.f; rw [if_pos rfl]
    refine Ev.step (f := fun k => (aukletlaw01_lives.f k).bind fun t => some t) (fun k => ?_) hl
    simp only [aukletlaw01_DecRests.f]
    rw [hd, hm]
    simp only [Option.bind_some]
    rw [if_neg (by omega)]
    simp only [aukletlaw01_DecRests.j0]
    rw [if_pos trivial, if_pos trivial, if_pos trivial, if_pos trivial]
  · have m1 := div_ev ha hb hz
    unfold aukletlaw01_DecRests.f
    refine Ev.bind m1 ?_
    simp only [mod_f hz, Option.bind_some]
    by_cases hok : (bk (sd a 1000000 b)).2 = 0
    · simp only [if_pos hok]
      have hin : In (sd a 1000000 b) := by
        unfold bk at hok
        split at hok
        · assumption
        · simp at hok
      have hv : (bk (sd a 1000000 b)).1 = sd a 1000000 b := by unfold bk; rw [if_pos (show -9223372036854775808 ≤ sd a 1000000 b ∧ sd a 1000000 b ≤ 9223372036854775807 from hin)]
      rw [hv]
      have hw := wh_in hin
      have m2 := Mul_spec hw hb
      have hB : 0 < absV b := by unfold absV; split <;> omega
      have hA : 0 ≤ absV a := by unfold absV; split <;> omega
      have t1 := Int.ediv_mul_le (absV a) (show absV b ≠ 0 by omega)
      have t0 : 0 ≤ absV a / absV b * absV b := Int.mul_nonneg (Int.ediv_nonneg hA (by omega)) (by omega)
      have t2 := Int.emod_add_mul_ediv (absV a) (absV b)
      rw [Int.mul_comm] at t2
      have r0 := Int.emod_nonneg (absV a) (show absV b ≠ 0 by omega)
      rw [back_mul hz] at m2
      have hin2 : In (if a < 0 then -(absV a / absV b * absV b) else absV a / absV b * absV b) := by
        obtain ⟨a0, a1⟩ := ha
        generalize absV a / absV b * absV b = P at *
        unfold In
        unfold absV at t1
        split at t1
        · rename_i hneg; rw [if_pos hneg]; omega
        · rename_i hneg; rw [if_neg hneg]; omega
      have hin3 : In (rs a b) := by
        obtain ⟨a0, a1⟩ := ha
        unfold In rs
        generalize absV a / absV b * absV b = P at *
        generalize absV a % absV b = Rr at *
        unfold absV at t2
        split at t2
        · rename_i hneg; rw [if_pos hneg]; omega
        · rename_i hneg; rw [if_neg hneg]; omega
      have hsum : (if a < 0 then -(absV a / absV b * absV b) else absV a / absV b * absV b) + rs a b = a := by
        unfold rs
        generalize absV a / absV b * absV b = P at *
        generalize absV a % absV b = Rr at *
        unfold absV at t2
        split at t2
        · rename_i hneg; rw [if_pos hneg, if_pos hneg]; omega
        · rename_i hneg; rw [if_neg hneg, if_neg hneg]; omega
      have hbk2 : bk (if a < 0 then -(absV a / absV b * absV b) else absV a / absV b * absV b) = ((if a < 0 then -(absV a / absV b * absV b) else absV a / absV b * absV b), 0) := by unfold bk; exact if_pos hin2
      rw [hbk2] at m2
      have hbka : bk a = (a, 0) := by unfold bk; exact if_pos ha
      have hadd := add_f hin2 hin3
      rw [hsum, hbka] at hadd
      obtain ⟨K1, m2⟩ := m2
      obtain ⟨K2, hl⟩ := hl
      refine ⟨max K1 K2 + 1, fun k hk => ?_⟩
      obtain ⟨m, rfl⟩ : ∃ m, k = m + 1 := ⟨k - 1, by omega⟩
      simp only [aukletlaw01_DecRests.j0]
      have l1 := m2 m (by omega)
      have l2 := hl m (by omega)
      simp only at l1 l2
      rw [if_neg (by simp), int_f hin]
      simp only [Option.bind_some]
      rw [l1]
      simp only [Option.bind_some]
      rw [hadd]
      simp only [Option.bind_some, if_true]
      exact l2
    · simp only [if_neg hok]
      refine Ev.step (f := fun k => (aukletlaw01_lives.f k).bind fun t => some t) (fun k => ?_) hl
      simp only [aukletlaw01_DecRests.j0]
      rw [if_pos trivial, if_neg hz]

end Go.Proofs.Ytjbblmdpiapmbaa.Pure
