/- The law that of any two cells one is below, the same as, or above the other one, in plain Lean. -/
import Derived.Test.YtdcakdloakammaaCmq
import Derived.Test.YtdcakdloakammaaQOrd
import Derived.Test.YtdcakdloakammaaCLiv
set_option linter.unusedVariables false
set_option linter.unusedSimpArgs false
namespace Go.Proofs.Ytdcakdloakammaa.Pure
open Go.RowKit Go.Proofs.Ytdcakdloakammaa.PCod Go.Proofs.YtdcakdloakammaaW.PrintWords Go.Proofs.YtdcakdloakammaaW.PrintLast
open Go.Proofs.Ytdcakdloakammaa.Giv Go.Proofs.Ytdcakdloakammaa.Cel Go.Proofs.Ytdcakdloakammaa.Div

theorem bool_f (b : Bool) : code_Bool.f b = some (1, if b = true then 1000000 else 0, ⟨#[]⟩) := by cases b <;> rfl
theorem is_ev (x0 : ByteArray) (p : Int → Bool) (k n : Int) (s : ByteArray) (k' n' : Int) (s' : ByteArray) (hn : In n) (hn' : In n')
    (h1 : ∀ f, code_Two.f f x0 k n s k' n' s' = code_Two.j0 f x0 false k n s k' n' s')
    (h2 : ∀ t : Int, (if x0.toList = ([60] : List UInt8) then ((code_Bool.f (decide (t < 0))).bind fun bt165 => (some (bt165.1, bt165.2.1, bt165.2.2, (0 : Int)))) else (if x0.toList = ([60, 61] : List UInt8) then ((code_Bool.f (decide (t ≤ 0))).bind fun bt168 => (some (bt168.1, bt168.2.1, bt168.2.2, 0))) else (if x0.toList = ([61, 61] : List UInt8) then ((code_Bool.f (t == 0)).bind fun bt171 => (some (bt171.1, bt171.2.1, bt171.2.2, 0))) else (if x0.toList = ([33, 61] : List UInt8) then ((code_Bool.f (t != 0)).bind fun bt174 => (some (bt174.1, bt174.2.1, bt174.2.2, 0))) else (if x0.toList = ([62] : List UInt8) then ((code_Bool.f (decide (t > 0))).bind fun bt177 => (some (bt177.1, bt177.2.1, bt177.2.2, 0))) else (if x0.toList = ([62, 61] : List UInt8) then ((code_Bool.f (decide (t ≥ 0))).bind fun bt180 => (some (bt180.1, bt180.2.1, bt180.2.2, 0))) else (some (0, 0, (⟨#[]⟩ : ByteArray), 1)))))))) = some (1, if p t = true then 1000000 else 0, ⟨#[]⟩, 0)) :
    Ev (fun f => aukletlaw15_is.f f x0 k n s k' n' s') (p (cmpV k n s k' n' s')) := by
  have hT : Ev (fun f => code_Two.f f x0 k n s k' n' s') (1, if p (cmpV k n s k' n' s') = true then 1000000 else 0, ⟨#[]⟩, 0) := by
    simp only [h1]
    obtain ⟨K, hK⟩ := cmpC_ev k n s k' n' s' hn hn'
    refine ⟨K + 1, fun f hf => ?_⟩
    obtain ⟨j, rfl⟩ : ∃ j, f = j + 1 := ⟨f - 1, by omega⟩
    have hK' : cell_Compare.f j k n s k' n' s' = some (cmpV k n s k' n' s') := hK j (by omega)
    simp only [code_Two.j0]
    rw [if_neg (by simp), hK']
    simp only [Option.bind_some]
    exact h2 _
  unfold aukletlaw15_is.f
  refine Ev.bind hT ?_
  simp only [if_true, aukletref15_Bool.f, Option.bind_some]
  generalize p (cmpV k n s k' n' s') = b
  have e : ((1 : Int) == 1 && ((if b = true then (1000000 : Int) else 0) == 1000000 && ((⟨#[]⟩ : ByteArray).toList == (⟨#[]⟩ : ByteArray).toList))) = b := by
    cases b <;> decide +kernel
  rw [e]
  exact Ev.now _
section
variable (k n : Int) (s : ByteArray) (k' n' : Int) (s' : ByteArray) (hn : In n) (hn' : In n')
theorem is_lt (hn : In n) (hn' : In n') : Ev (fun f => aukletlaw15_is.f f (⟨#[60]⟩ : ByteArray) k n s k' n' s') (decide (cmpV k n s k' n' s' < 0)) := by
  refine is_ev _ (fun t => decide (t < 0)) k n s k' n' s' hn hn' (fun f => ?_) (fun t => ?_)
  · have e : (⟨#[60]⟩ : ByteArray).toList = ([60] : List UInt8) := by decide +kernel
    simp [code_Two.f, e]
  · have e : (⟨#[60]⟩ : ByteArray).toList = ([60] : List UInt8) := by decide +kernel
    rw [if_pos e, bool_f]; rfl
theorem is_le (hn : In n) (hn' : In n') : Ev (fun f => aukletlaw15_is.f f (⟨#[60, 61]⟩ : ByteArray) k n s k' n' s') (decide (cmpV k n s k' n' s' ≤ 0)) := by
  have e : (⟨#[60, 61]⟩ : ByteArray).toList = ([60, 61] : List UInt8) := by decide +kernel
  refine is_ev _ (fun t => decide (t ≤ 0)) k n s k' n' s' hn hn' (fun f => ?_) (fun t => ?_)
  · simp [code_Two.f, e]
  · simp [e, bool_f]
theorem is_eq (hn : In n) (hn' : In n') : Ev (fun f => aukletlaw15_is.f f (⟨#[61, 61]⟩ : ByteArray) k n s k' n' s') (cmpV k n s k' n' s' == 0) := by
  have e : (⟨#[61, 61]⟩ : ByteArray).toList = ([61, 61] : List UInt8) := by decide +kernel
  refine is_ev _ (fun t => t == 0) k n s k' n' s' hn hn' (fun f => ?_) (fun t => ?_)
  · simp [code_Two.f, e]
  · simp [e, bool_f]
theorem is_ne (hn : In n) (hn' : In n') : Ev (fun f => aukletlaw15_is.f f (⟨#[33, 61]⟩ : ByteArray) k n s k' n' s') (cmpV k n s k' n' s' != 0) := by
  have e : (⟨#[33, 61]⟩ : ByteArray).toList = ([33, 61] : List UInt8) := by decide +kernel
  refine is_ev _ (fun t => t != 0) k n s k' n' s' hn hn' (fun f => ?_) (fun t => ?_)
  · simp [code_Two.f, e]
  · simp [e, bool_f]
theorem is_gt (hn : In n) (hn' : In n') : Ev (fun f => aukletlaw15_is.f f (⟨#[62]⟩ : ByteArray) k n s k' n' s') (decide (cmpV k n s k' n' s' > 0)) := by
  have e : (⟨#[62]⟩ : ByteArray).toList = ([62] : List UInt8) := by decide +kernel
  refine is_ev _ (fun t => decide (t > 0)) k n s k' n' s' hn hn' (fun f => ?_) (fun t => ?_)
  · simp [code_Two.f, e]
  · simp [e, bool_f]
theorem is_ge (hn : In n) (hn' : In n') : Ev (fun f => aukletlaw15_is.f f (⟨#[62, 61]⟩ : ByteArray) k n s k' n' s') (decide (cmpV k n s k' n' s' ≥ 0)) := by
  have e : (⟨#[62, 61]⟩ : ByteArray).toList = ([62, 61] : List UInt8) := by decide +kernel
  refine is_ev _ (fun t => decide (t ≥ 0)) k n s k' n' s' hn hn' (fun f => ?_) (fun t => ?_)
  · simp [code_Two.f, e]
  · simp [e, bool_f]
end

theorem CodeOrders (k n : Int) (s : ByteArray) (k' n' : Int) (s' : ByteArray) (_ : (Lit.int .i64 k).wf = true) (wn : (Lit.int .i64 n).wf = true) (_ : s.size ≤ maxLen) (_ : (Lit.int .i64 k').wf = true) (wn' : (Lit.int .i64 n').wf = true) (_ : s'.size ≤ maxLen) :
    ∃ f, aukletlaw15_CodeOrders.f f k n s k' n' s' = some true := by
  have hn := In.of wn
  have hn' := In.of wn'
  suffices h : Ev (fun f => aukletlaw15_CodeOrders.f f k n s k' n' s') true from h.rounds
  have hl : Ev (fun f => (aukletlaw15_lives.f f).bind fun t => some t) true := Ev.bind code_lives (Ev.now _)
  have ht : Ev (fun f => aukletlaw15_CodeOrders.j0 f true k n s k' n' s') true := by
    refine Ev.step (f := fun f => (aukletlaw15_lives.f f).bind fun t => some t) (fun f => ?_) hl
    simp only [aukletlaw15_CodeOrders.j0]
    rw [if_pos trivial]
  have hr := cmpV_range k n s k' n' s'
  have hb : cmpV k' n' s' k n s = - cmpV k n s k' n' s' := cmpV_neg k n s k' n' s'
  have a1 := is_lt k n s k' n' s' hn hn'
  have a2 := is_le k n s k' n' s' hn hn'
  have a3 := is_eq k n s k' n' s' hn hn'
  have a4 := is_ne k n s k' n' s' hn hn'
  have a5 := is_gt k n s k' n' s' hn hn'
  have a6 := is_ge k n s k' n' s' hn hn'
  have a7 := is_gt k' n' s' k n s hn' hn
  rw [hb] at a7
  generalize cmpV k n s k' n' s' = c at *
  have h3 : Ev (fun f => aukletlaw15_CodeOrders.j3 f 1 k n s k' n' s') true := by
    obtain ⟨K1, b1⟩ := a1
    obtain ⟨K2, b2⟩ := a2
    obtain ⟨K3, b3⟩ := a3
    obtain ⟨K4, b4⟩ := a4
    obtain ⟨K5, b5⟩ := a5
    obtain ⟨K6, b6⟩ := a6
    obtain ⟨K7, b7⟩ := a7
    obtain ⟨K8, b8⟩ := code_lives
    refine ⟨K1 + K2 + K3 + K4 + K5 + K6 + K7 + K8 + 1, fun f hf => ?_⟩
    obtain ⟨j, rfl⟩ : ∃ j, f = j + 1 := ⟨f - 1, by omega⟩
    have c1 := b1 j (by omega)
    have c2 := b2 j (by omega)
    have c3 := b3 j (by omega)
    have c4 := b4 j (by omega)
    have c5 := b5 j (by omega)
    have c6 := b6 j (by omega)
    have c7 := b7 j (by omega)
    have c8 := b8 j (by omega)
    simp only [aukletlaw15_CodeOrders.j3]
    simp only at c1 c2 c3 c4 c5 c6 c7 c8
    rw [if_pos trivial, c1, c2, c3, c4, c5, c6, c7, c8]
    have hc : c = -1 ∨ c = 0 ∨ c = 1 := by omega
    rcases hc with rfl | rfl | rfl <;> decide
  have w1 : wrap64 (0 + 1) = 1 := Dig.wrap_in (by omega) (by omega)
  have hj : Ev (fun f => aukletlaw15_CodeOrders.j0 f false k n s k' n' s') true := by
    obtain ⟨K1, b1⟩ := a1
    obtain ⟨K3, b3⟩ := a3
    obtain ⟨K5, b5⟩ := a5
    obtain ⟨K, hK⟩ := h3
    refine ⟨K1 + K3 + K5 + K + 3, fun f hf => ?_⟩
    obtain ⟨j, rfl⟩ : ∃ j, f = j + 3 := ⟨f - 3, by omega⟩
    have c1 := b1 (j + 2) (by omega)
    have c3 := b3 (j + 1) (by omega)
    have c5 := b5 j (by omega)
    have cc := hK j (by omega)
    simp only at c1 c3 c5 cc
    have hc : c = -1 ∨ c = 0 ∨ c = 1 := by omega
    simp only [aukletlaw15_CodeOrders.j0, aukletlaw15_CodeOrders.j1, aukletlaw15_CodeOrders.j2]
    have w2 : wrap64 1 = 1 := Dig.wrap_in (by omega) (by omega)
    rw [if_neg (by simp), c1]
    rcases hc with rfl | rfl | rfl
    · simp [c3, c5, cc]
    · simp [c3, c5, cc, w1, w2]
    · simp [c3, c5, cc, w1, w2]
  unfold aukletlaw15_CodeOrders.f
  have hf : ∀ (k n : Int) (s : ByteArray), ∃ b, Ev (fun f => aukletlaw15_fits.f f k n s) b ∧ True := by
    intro k n s
    unfold aukletlaw15_fits.f
    by_cases hs : (s.size : Int) ≤ 300
    · simp only [if_pos hs]
      obtain ⟨b, hb⟩ := can_ev k n s (by omega)
      exact ⟨b, Ev.bind hb (Ev.now _), trivial⟩
    · simp only [if_neg hs]; exact ⟨false, Ev.now _, trivial⟩
  obtain ⟨b, hb, _⟩ := hf k n s
  obtain ⟨b', hb', _⟩ := hf k' n' s'
  refine Ev.bind hb ?_
  cases b with
  | true =>
    simp only [if_true]
    refine Ev.bind hb' ?_
    cases b' with
    | true => exact hj
    | false => exact ht
  | false => simp only [Bool.false_eq_true, if_false]; exact ht
end Go.Proofs.Ytdcakdloakammaa.Pure
