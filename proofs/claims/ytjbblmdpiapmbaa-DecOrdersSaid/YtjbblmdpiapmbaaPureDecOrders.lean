/- The law on the order. -/
import Derived.Test.YtjbblmdpiapmbaaScal
import Derived.Test.YtjbblmdpiapmbaaQOrd
set_option linter.unusedVariables false
set_option linter.unusedSimpArgs false
namespace Go.Proofs.Ytjbblmdpiapmbaa.Pure
open Go.RowKit Go.Proofs.Ytjbblmdpiapmbaa.PDec Go.Proofs.YtjbblmdpiapmbaaW.PrintWords Go.Proofs.YtjbblmdpiapmbaaW.PrintLast
open Go.Proofs.Ytjbblmdpiapmbaa.Dig Go.Proofs.Ytjbblmdpiapmbaa.Div Go.Proofs.Ytjbblmdpiapmbaa.Giv

theorem div_ev {a b : Int} (ha : In a) (hb : In b) (hz : b ≠ 0) : Ev (fun k => dec_Div.f k a b) (bk (sd a 1000000 b)) := by
  unfold dec_Div.f
  simp only [if_neg hz]
  exact Ev.bind (scaled_spec ha (b := 1000000) (c := b) (by unfold In; omega) hb hz) (Ev.now _)
theorem bk_ok {x : Int} (h : (bk x).2 = 0) : (bk x).1 = x := by
  unfold bk at h ⊢
  split at h
  · rename_i h1; rw [if_pos h1]
  · simp at h

theorem sd_mono {a b c z : Int} (h : a ≤ b) (hc : 0 ≤ c) (hz : 0 < z) : sd a c z ≤ sd b c z := by
  have dz : decide (z < 0) = false := decide_eq_false (by omega)
  have dc : decide (c < 0) = false := decide_eq_false (by omega)
  have mono : ∀ x y : Int, 0 ≤ x → x ≤ y → x * absV c / absV z ≤ y * absV c / absV z := fun x y hx hxy => by
    have hc' : 0 ≤ absV c := by unfold absV; split <;> omega
    have hz' : 0 < absV z := by unfold absV; split <;> omega
    exact Int.ediv_le_ediv hz' (Int.mul_le_mul_of_nonneg_right hxy hc')
  have nn : ∀ x : Int, 0 ≤ x → 0 ≤ x * absV c / absV z := fun x hx => by
    have hc' : 0 ≤ absV c := by unfold absV; split <;> omega
    have hz' : 0 ≤ absV z := by unfold absV; split <;> omega
    exact Int.ediv_nonneg (Int.mul_nonneg hx hc') hz'
  unfold sd
  rw [dz, dc]
  simp only [Bool.bne_false, decide_eq_true_eq]
  by_cases ha : a < 0
  · rw [if_pos ha]
    have na := nn (absV a) (by unfold absV; split <;> omega)
    by_cases hb : b < 0
    · rw [if_pos hb]
      have := mono (absV b) (absV a) (by unfold absV; split <;> omega) (by unfold absV; rw [if_pos ha, if_pos hb]; omega)
      omega
    · rw [if_neg hb]
      have nb := nn (absV b) (by unfold absV; split <;> omega)
      omega
  · rw [if_neg ha, if_neg (by omega)]
    exact mono (absV a) (absV b) (by unfold absV; split <;> omega) (by unfold absV; rw [if_neg ha, if_neg (by omega)]; exact h)

theorem DecOrders : aukletlaw01_DecOrders.Pure := by
  intro a b c wa wb wc
  have ha := In.of wa
  have hb := In.of wb
  have hc := In.of wc
  suffices h : Ev (fun k => aukletlaw01_DecOrders.f k a b c) true from h.rounds
  have hl : Ev (fun k => (aukletlaw01_lives.f k).bind fun t => some t) true := Ev.bind lives_spec (Ev.now _)
  have htrue : Ev (fun k => aukletlaw01_DecOrders.j0 k a b c true) true := by
    refine Ev.step (f := fun k => (aukletlaw01_lives.f k).bind fun t => some t) (fun k => ?_) hl
    simp only [aukletlaw01_DecOrders.j0]
    rw [if_pos trivial]
  unfold aukletlaw01_DecOrders.f
  by_cases h : a > b
  · simp only [if_pos h]; exact htrue
  simp only [if_neg h]
  by_cases hz : c ≤ 0
  · simp only [hz, decide_true]; exact htrue
  simp only [hz, decide_false]
  obtain ⟨x, hx⟩ : ∃ x, x = bk (sd a c 1000000) := ⟨_, rfl⟩
  obtain ⟨y, hy⟩ : ∃ x, x = bk (sd b c 1000000) := ⟨_, rfl⟩
  obtain ⟨u, hu⟩ : ∃ x, x = bk (sd a 1000000 c) := ⟨_, rfl⟩
  obtain ⟨v, hv⟩ : ∃ x, x = bk (sd b 1000000 c) := ⟨_, rfl⟩
  have m1 := Mul_spec ha hc
  have m2 := Mul_spec hb hc
  have m3 := div_ev ha hc (by omega)
  have m4 := div_ev hb hc (by omega)
  have o1 : x.2 = 0 → y.2 = 0 → x.1 ≤ y.1 := fun h1 h2 => by
    rw [hx] at h1 ⊢; rw [hy] at h2 ⊢
    rw [bk_ok h1, bk_ok h2]; exact sd_mono (by omega) (by omega) (by omega)
  have o2 : u.2 = 0 → v.2 = 0 → u.1 ≤ v.1 := fun h1 h2 => by
    rw [hu] at h1 ⊢; rw [hv] at h2 ⊢
    rw [bk_ok h1, bk_ok h2]; exact sd_mono (by omega) (by omega) (by omega)
  rw [← hx] at m1; rw [← hy] at m2; rw [← hu] at m3; rw [← hv] at m4
  obtain ⟨K1, m1⟩ := m1
  obtain ⟨K2, m2⟩ := m2
  obtain ⟨K3, m3⟩ := m3
  obtain ⟨K4, m4⟩ := m4
  obtain ⟨K5, m5⟩ := hl
  refine ⟨max K1 (max K2 (max K3 (max K4 K5))) + 1, fun k hk => ?_⟩
  obtain ⟨m, rfl⟩ : ∃ m, k = m + 1 := ⟨k - 1, by omega⟩
  simp only [aukletlaw01_DecOrders.j0]
  have l1 := m1 m (by omega)
  have l2 := m2 m (by omega)
  have l3 := m3 m (by omega)
  have l4 := m4 m (by omega)
  have l5 := m5 m (by omega)
  simp only at l1 l2 l3 l4 l5
  rw [l1, l2, l3, l4, if_neg (by simp)]
  simp only [Option.bind_some]
  have hin : (if u.2 = 0 then (if v.2 = 0 then (if u.1 ≤ v.1 then ((aukletlaw01_lives.f m).bind fun t465 => (some t465)) else (some false)) else ((aukletlaw01_lives.f m).bind fun t466 => (some t466))) else ((aukletlaw01_lives.f m).bind fun t467 => (some t467))) = some true := by
    by_cases h1 : u.2 = 0
    · rw [if_pos h1]
      by_cases h2 : v.2 = 0
      · rw [if_pos h2, if_pos (o2 h1 h2)]; exact l5
      · rw [if_neg h2]; exact l5
    · rw [if_neg h1]; exact l5
  by_cases h1 : x.2 = 0
  · rw [if_pos h1]
    by_cases h2 : y.2 = 0
    · rw [if_pos h2, if_pos (o1 h1 h2)]; exact hin
    · rw [if_neg h2]; exact hin
  · rw [if_neg h1]; exact hin

end Go.Proofs.Ytjbblmdpiapmbaa.Pure
