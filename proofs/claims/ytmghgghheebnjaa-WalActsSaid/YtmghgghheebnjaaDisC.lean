/- The two closures that keeps is handed: walked by hand. -/
import Derived.Test.YtmghgghheebnjaaDisY
namespace Go.Proofs.Ytmghgghheebnjaa.Dis
open Go.RowKit Go.Proofs.YtmghgghheebnjaaW.PrintWords Go.Proofs.YtmghgghheebnjaaW.PrintLast Go.Proofs.YtmghgghheebnjaaW.PrintMore Go.Maps
set_option linter.unusedVariables false
set_option linter.unusedSimpArgs false
theorem all_calls (i : Int) (w : World) : Calls Try.prog 71 #[.int .i64 i] w fun e w' => e = .returned (.bool true) ∧ Below w.heap.size w w' := by
  go_enter Try.func71, Try.ntmps71
  go_wp2
  go_ret
  exact ⟨rfl, Below.refl _ _⟩
def kept (l : List Bool) (i : Nat) : Bool := l.getD i false
theorem some_calls (gk : Nat) (A : Option Addr) (c : Nat) (l : List Bool) (i : Nat) (w : World) (hb : w.heap[gk]? = some (.cells #[.slice A l.length c] 44 (0, 0))) (hr : Kd.C Kd.bool w A l.length l) (hi : (i : Int) ≤ 9223372036854775807) :
    Calls Try.prog 55 #[.int .i64 (i : Int), .pointer (some ⟨gk, 0, none⟩)] w fun e w' => e = .returned (.bool (kept l i)) ∧ Below w.heap.size w w' := by
  have c0 : w.cell? ⟨gk, 0, none⟩ = some (.slice A l.length c) := (blk_cell hb 0).trans rfl
  have f0 := blk_frozen hb 0
  clear hb
  unfold kept
  by_cases h : i < l.length
  · obtain ⟨ad, rfl, hc⟩ := Kd.at_bool hr (i : Int) (by omega) (by omega)
    have e : rdOf false l (i : Int) = l.getD i false := rfl
    rw [e] at hc
    obtain ⟨x, hx⟩ : ∃ x, x = l.getD i false := ⟨_, rfl⟩
    rw [← hx] at hc ⊢
    have e1 : decide ((i : Int) < l.length) = true := decide_eq_true (by omega)
    have e2 : decide (i < l.length) = true := decide_eq_true h
    have e3 : 0 ≤ (i : Int) := by omega
    simp only [Int.toNat_natCast] at hc
    clear e hx hr
    go_enter Try.func55, Try.ntmps55
    go_wp2
    go_ret
    exact ⟨rfl, Below.refl _ _⟩
  · have hx : l.getD i false = false := by rw [List.getD_eq_getElem?_getD, List.getElem?_eq_none (by omega)]; rfl
    rw [hx]
    have e1 : decide ((i : Int) < l.length) = false := decide_eq_false (by omega)
    have e2 : decide (i < l.length) = false := decide_eq_false h
    clear hx hr
    go_enter Try.func55, Try.ntmps55
    go_wp2
    go_ret
    exact ⟨rfl, Below.refl _ _⟩
end Go.Proofs.Ytmghgghheebnjaa.Dis
