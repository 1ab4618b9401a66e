/- The law DiskWhole: the plain law. -/
import Derived.Test.YtnaegemldpfllaaDisH
namespace Go.Proofs.Ytnaegemldpfllaa.Dis
set_option linter.unusedVariables false
theorem keptTo_at (F : Nat → Bool) (l : List (Int × List Int)) (f : Int → List Int) (i : Int) : ∀ k, k ≤ l.length → keptTo F l f k i = f i ∨ ∃ x ∈ l, x.1 = i ∧ keptTo F l f k i = x.2
  | 0, _ => .inl rfl
  | k + 1, hk => by
    have ih := keptTo_at F l f i k (by omega)
    have hm : l.getD k (0, zeros) ∈ l := by rw [List.getD_eq_getElem?_getD, List.getElem?_eq_getElem (by omega)]; exact List.getElem_mem _
    unfold keptTo
    by_cases hF : F k = true
    · rw [if_pos hF]
      unfold upd
      by_cases hi : i = (l.getD k (0, zeros)).1
      · rw [if_pos hi]
        exact .inr ⟨_, hm, hi.symm, rfl⟩
      · rw [if_neg hi]
        exact ih
    · rw [if_neg hF]
      exact ih
theorem puts_fast (d : D) {c : Nat} (h : Live d c) (l : List Act_) : (puts d l).fast = d.fast ∧ (puts d l).n = d.n ∧ ∀ x ∈ (puts d l).since, x ∈ d.since ∨ ∃ a ∈ l, x = (and7 a.2.1, pad (a.2.2.1.take 512)) := by
  induction l generalizing d c with
  | nil => exact ⟨rfl, rfl, fun x hx => .inl hx⟩
  | cons a l ih =>
    obtain ⟨h1, h2, h3⟩ := ih (put1 d a) (put1_live h a)
    have hp : put1 d a = { d with since := d.since ++ [(and7 a.2.1, pad (a.2.2.1.take 512))], cnt := d.cnt + 1 } := by unfold put1; rw [write_live h]
    have hc : puts d (a :: l) = puts (put1 d a) l := rfl
    rw [hc]
    refine ⟨h1.trans (by rw [hp]), h2.trans (by rw [hp]), fun x hx => ?_⟩
    rcases h3 x hx with h4 | ⟨b, hb, e⟩
    · rw [hp] at h4
      rcases List.mem_append.1 h4 with h5 | h5
      · exact .inl h5
      · exact .inr ⟨a, List.mem_cons_self, List.mem_singleton.1 h5⟩
    · exact .inr ⟨b, List.mem_cons_of_mem _ hb, e⟩
/-- THE PLAIN LAW: behind the crash each sector is as the flush left it, or one of the second writes. -/
theorem sector_at (l1 l2 : List Act_) (l3 : List Bool) (i : Int) (h0 : 0 ≤ i) (h8 : i < 8) :
    bytesD (D3 l1 l2 l3) i = bytesD (D1 l1) i ∨ ∃ a ∈ l2.take 20, and7 a.2.1 = i ∧ bytesD (D3 l1 l2 l3) i = pad (a.2.2.1.take 512) := by
  have hL := D1_live l1
  obtain ⟨h1, h2, h3⟩ := puts_fast (D1 l1) hL (l2.take 20)
  have hn1 : (D1 l1).n = 8 := hL.n
  have e1 : bytesD (D1 l1) i = (D1 l1).fast i := if_neg (by rw [hn1]; omega)
  have hn3 : (D3 l1 l2 l3).n = 8 := h2.trans hn1
  have e3 : bytesD (D3 l1 l2 l3) i = keptTo (kept l3) (D2 l1 l2).since (D2 l1 l2).fast (D2 l1 l2).since.length i := if_neg (by rw [hn3]; omega)
  rw [e1, e3]
  rcases keptTo_at (kept l3) (D2 l1 l2).since (D2 l1 l2).fast i _ (Nat.le_refl _) with h | ⟨x, hx, hi, h⟩
  · exact .inl (h.trans (congrFun h1 i))
  · rcases h3 x hx with h4 | ⟨a, ha, e⟩
    · exact absurd h4 (by show x ∉ []; simp)
    · subst e
      exact .inr ⟨a, ha, hi, h⟩
end Go.Proofs.Ytnaegemldpfllaa.Dis
