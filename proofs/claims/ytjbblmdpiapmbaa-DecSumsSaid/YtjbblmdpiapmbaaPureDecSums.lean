/- The law on sums: what is computed is the true sum, and so is what the reference computes. -/
import Derived.Test.YtjbblmdpiapmbaaScal
import Derived.Test.YtjbblmdpiapmbaaPDecx5
set_option linter.unusedVariables false
set_option linter.unusedSimpArgs false
namespace Go.Proofs.Ytjbblmdpiapmbaa.Pure
open Go.RowKit Go.Proofs.Ytjbblmdpiapmbaa.PDec Go.Proofs.YtjbblmdpiapmbaaW.PrintWords Go.Proofs.YtjbblmdpiapmbaaW.PrintLast
open Go.Proofs.Ytjbblmdpiapmbaa.Dig Go.Proofs.Ytjbblmdpiapmbaa.Div

theorem add_f {a b : Int} (ha : In a) (hb : In b) : dec_Add.f a b = some (bk (a + b)) := by
  obtain ⟨a0, a1⟩ := ha
  obtain ⟨b0, b1⟩ := hb
  unfold dec_Add.f bk
  by_cases h : b > 0
  · rw [if_pos h, wrap_in (x := 9223372036854775807 - b) (by omega) (by omega)]
    by_cases h2 : a > 9223372036854775807 - b
    · rw [if_pos h2, if_neg (by omega)]
    · rw [if_neg h2, if_neg (by omega), if_pos (by omega), wrap_in (by omega) (by omega)]
  · rw [if_neg h]
    by_cases h1 : b < 0
    · rw [if_pos h1, wrap_in (x := -9223372036854775808 - b) (by omega) (by omega)]
      by_cases h2 : a < -9223372036854775808 - b
      · rw [if_pos h2, if_neg (by omega)]
      · rw [if_neg h2, if_pos (by omega), wrap_in (by omega) (by omega)]
    · rw [if_neg h1, if_pos (by omega), wrap_in (by omega) (by omega)]
theorem sub_f {a b : Int} (ha : In a) (hb : In b) : dec_Sub.f a b = some (bk (a - b)) := by
  obtain ⟨a0, a1⟩ := ha
  obtain ⟨b0, b1⟩ := hb
  unfold dec_Sub.f bk
  by_cases h : b < 0
  · rw [if_pos h, wrap_in (x := 9223372036854775807 + b) (by omega) (by omega)]
    by_cases h2 : a > 9223372036854775807 + b
    · rw [if_pos h2, if_neg (by omega)]
    · rw [if_neg h2, if_neg (by omega), if_pos (by omega), wrap_in (by omega) (by omega)]
  · rw [if_neg h]
    by_cases h1 : b > 0
    · rw [if_pos h1, wrap_in (x := -9223372036854775808 + b) (by omega) (by omega)]
      by_cases h2 : a < -9223372036854775808 + b
      · rw [if_pos h2, if_neg (by omega)]
      · rw [if_neg h2, if_pos (by omega), wrap_in (by omega) (by omega)]
    · rw [if_neg h1, if_pos (by omega), wrap_in (by omega) (by omega)]
theorem neg_f {a : Int} (ha : In a) : dec_Neg.f a = some (bk (-a)) := by
  obtain ⟨a0, a1⟩ := ha
  unfold dec_Neg.f bk
  by_cases h : a = -9223372036854775808
  · rw [if_pos h, if_neg (by omega)]
  · rw [if_neg h, if_pos (by omega), wrap_in (by omega) (by omega)]

theorem radd {a b : Int} (ha : In a) (hb : In b) : Ev (fun k => aukletref01_Add.f k a b) (bk (a + b)) := by
  obtain ⟨A, e1, e2, _, _, e5, e6⟩ := Of_spec a ha.1 ha.2
  obtain ⟨B, f1, f2, _, _, f5, f6⟩ := Of_spec b hb.1 hb.2
  obtain ⟨m, R, p1, p2, p3, p4⟩ := Plus_spec (decide (a < 0)) (decide (b < 0)) e2 f2 19 (by omega) e6 f6
  have q := Back_spec m p2 (by omega)
  rw [p3, e5, f5] at q
  unfold aukletref01_Add.f
  refine Ev.bind e1 (Ev.bind f1 (Ev.bind p1 (Ev.bind q (Ev.now _))))
theorem rsub {a b : Int} (ha : In a) (hb : In b) : Ev (fun k => aukletref01_Sub.f k a b) (bk (a - b)) := by
  obtain ⟨A, e1, e2, _, _, e5, e6⟩ := Of_spec a ha.1 ha.2
  obtain ⟨B, f1, f2, _, _, f5, f6⟩ := Of_spec b hb.1 hb.2
  obtain ⟨m, R, p1, p2, p3, p4⟩ := Plus_spec (decide (a < 0)) (!decide (b < 0)) e2 f2 19 (by omega) e6 f6
  have q := Back_spec m p2 (by omega)
  have hn : sv (!decide (b < 0)) B = -b := by
    revert f5
    cases decide (b < 0) <;> simp [sv] <;> omega
  have e : sv m R = a - b := by rw [p3, e5, hn]; omega
  rw [e] at q
  unfold aukletref01_Sub.f
  refine Ev.bind e1 (Ev.bind f1 ?_)
  simp only [aukletref01_Not.f, Option.bind_some]
  exact Ev.bind p1 (Ev.bind q (Ev.now _))
theorem rneg {a : Int} (ha : In a) : Ev (fun k => aukletref01_Neg.f k a) (bk (-a)) := by
  obtain ⟨A, e1, e2, _, _, e5, e6⟩ := Of_spec a ha.1 ha.2
  have q := Back_spec (!decide (a < 0)) e2 (by omega)
  have hn : sv (!decide (a < 0)) A = -a := by
    revert e5
    cases decide (a < 0) <;> simp [sv] <;> omega
  rw [hn] at q
  unfold aukletref01_Neg.f
  refine Ev.bind e1 ?_
  simp only [aukletref01_Not.f, Option.bind_some]
  exact Ev.bind q (Ev.now _)

theorem DecSums : aukletlaw01_DecSums.Pure := by
  intro a b wa wb
  have ha := In.of wa
  have hb := In.of wb
  suffices h : Ev (fun k => aukletlaw01_DecSums.f k a b) true from h.rounds
  unfold aukletlaw01_DecSums.f
  simp only [add_f ha hb, sub_f ha hb, neg_f ha, Option.bind_some]
  refine Ev.bind (radd ha hb) (Ev.bind (rsub ha hb) (Ev.bind (rneg ha) ?_))
  simp only [if_true]
  exact Ev.bind lives_spec (Ev.now _)

end Go.Proofs.Ytjbblmdpiapmbaa.Pure
