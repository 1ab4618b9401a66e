/- The disk's small methods, walked by hand. -/
import Derived.Test.YtmghgghheebnjaaDisA
namespace Go.Proofs.Ytmghgghheebnjaa.Dis
open Go.RowKit Go.Proofs.YtmghgghheebnjaaW.PrintWords Go.Proofs.YtmghgghheebnjaaW.PrintLast Go.Proofs.YtmghgghheebnjaaW.PrintMore Go.Maps
set_option linter.unusedVariables false
set_option linter.unusedSimpArgs false
def callD (d : D) : D × Int := if d.left = 0 ∨ d.dead = true then ({ d with dead := true }, 190) else ({ d with left := if 0 < d.left then d.left - 1 else d.left }, 0)
theorem call_calls (base g : Nat) (d : D) (w W : World) (h : IsD base W g d) (hB : Below base w W) : Calls Try.prog 67 #[.pointer (some ⟨g, 0, none⟩)] W fun e w' => e = .returned (.int .i64 (callD d).2) ∧ IsD base w' g (callD d).1 ∧ Below base w w' ∧ KeepD W w' := by
  have hge := h.ge
  have hok := h.1
  have hl0 := hok.l0
  have hl1 := hok.l1
  have H := h
  obtain ⟨_, b, v, m, hb, _⟩ := h
  have c3 : W.cell? ⟨g, 3, none⟩ = some (.int .i64 d.left) := (blk_cell hb 3).trans rfl
  have c4 : W.cell? ⟨g, 4, none⟩ = some (.bool d.dead) := (blk_cell hb 4).trans rfl
  have f3 := blk_frozen hb 3
  have f4 := blk_frozen hb 4
  have HH := Aside0.mk H
  have HBB := Aside0.mk hB
  have Hb := Aside0.mk hb
  clear H hB hb hok
  unfold callD
  by_cases h0 : d.left = 0
  · rw [if_pos (.inl h0)]
    have e0 : (d.left == 0) = true := by simp [h0]
    rw [h0] at c3
    go_enter Try.func67, Try.ntmps67
    go_wp2
    go_ret
    exact ⟨rfl, HH.out.set_dead true, HBB.out.setCell hge _, (KeepD.refl W).set Hb.out _⟩
  · have e0 : (d.left == 0) = false := by simp [h0]
    have e0' : (d.left = 0) = False := by simp [h0]
    cases hd : d.dead with
    | true =>
      rw [if_pos (.inr rfl)]
      rw [hd] at c4
      have hs : ({ d with dead := true } : D) = d := by cases d; simp at hd; simp [hd]
      rw [hs]
      clear hd
      go_enter Try.func67, Try.ntmps67
      go_wp2
      go_ret
      exact ⟨rfl, HH.out, HBB.out, KeepD.refl W⟩
    | false =>
      rw [if_neg (by simp [h0])]
      rw [hd] at c4
      have HD := Aside0.mk hd
      clear hd
      by_cases hp : 0 < d.left
      · rw [if_pos hp]
        have b1 : 0 ≤ d.left := by omega
        have e1 : (0 < d.left) = True := by simp [hp]
        go_enter Try.func67, Try.ntmps67
        go_wp2
        go_ret
        have hx := HH.out.set_left (d.left - 1) (by omega) (by omega)
        rw [HD.out] at hx
        exact ⟨rfl, hx, HBB.out.setCell hge _, (KeepD.refl W).set Hb.out _⟩
      · rw [if_neg hp]
        have e1 : (0 < d.left) = False := by simp [hp]
        go_enter Try.func67, Try.ntmps67
        go_wp2
        go_ret
        have hs : ({ n := d.n, fast := d.fast, since := d.since, left := d.left, dead := false, cnt := d.cnt } : D) = d := by rw [← HD.out]
        rw [hs]
        exact ⟨rfl, HH.out, HBB.out, KeepD.refl W⟩
def thereD (d : D) (i : Int) : Int := if i < 0 then 1 else if d.n ≤ i then 8 else 0
theorem there_calls (base g : Nat) (d : D) (i : Int) (W : World) (h : IsD base W g d) : Calls Try.prog 68 #[.pointer (some ⟨g, 0, none⟩), .int .i64 i] W fun e w' => e = .returned (.int .i64 (thereD d i)) ∧ w' = W := by
  obtain ⟨_, b, v, m, hb, _⟩ := h
  have c0 : W.cell? ⟨g, 0, none⟩ = some (.int .i64 d.n) := (blk_cell hb 0).trans rfl
  have f0 := blk_frozen hb 0
  clear hb
  unfold thereD
  by_cases h1 : i < 0
  · rw [if_pos h1]
    go_enter Try.func68, Try.ntmps68
    go_wp2
    go_ret
    exact ⟨rfl, rfl⟩
  · rw [if_neg h1]
    by_cases h2 : d.n ≤ i
    · rw [if_pos h2]
      go_enter Try.func68, Try.ntmps68
      go_wp2
      go_ret
      exact ⟨rfl, rfl⟩
    · rw [if_neg h2]
      go_enter Try.func68, Try.ntmps68
      go_wp2
      go_ret
      exact ⟨rfl, rfl⟩
theorem sectors_calls (base g : Nat) (d : D) (W : World) (h : IsD base W g d) : Calls Try.prog 43 #[.pointer (some ⟨g, 0, none⟩)] W fun e w' => e = .returned (.int .i64 d.n) ∧ w' = W := by
  obtain ⟨_, b, v, m, hb, _⟩ := h
  have c0 : W.cell? ⟨g, 0, none⟩ = some (.int .i64 d.n) := (blk_cell hb 0).trans rfl
  have f0 := blk_frozen hb 0
  clear hb
  go_enter Try.func43, Try.ntmps43
  go_wp2
  go_ret
  exact ⟨rfl, rfl⟩
theorem pending_calls (base g : Nat) (d : D) (W : World) (h : IsD base W g d) : Calls Try.prog 27 #[.pointer (some ⟨g, 0, none⟩)] W fun e w' => e = .returned (.int .i64 d.since.length) ∧ w' = W := by
  obtain ⟨_, b, v, m, hb, _, _, _, _, hR⟩ := h
  obtain ⟨A, c, rfl⟩ := Kd.R_slice hR
  have c2 : W.cell? ⟨g, 2, none⟩ = some (.slice A d.since.length c) := (blk_cell hb 2).trans rfl
  have f2 := blk_frozen hb 2
  clear hb hR
  go_enter Try.func27, Try.ntmps27
  go_wp2
  go_ret
  exact ⟨rfl, rfl⟩
def armD (d : D) (c : Int) : D := { d with left := if c < 0 then 0 else c }
theorem arm_calls (base g : Nat) (d : D) (c : Int) (hc : c ≤ 9223372036854775807) (w W : World) (h : IsD base W g d) (hB : Below base w W) : Calls Try.prog 19 #[.pointer (some ⟨g, 0, none⟩), .int .i64 c] W fun e w' => e = .returned (.tuple #[]) ∧ IsD base w' g (armD d c) ∧ Below base w w' ∧ KeepD W w' := by
  have hge := h.ge
  have H := h
  obtain ⟨_, b, v, m, hb, _⟩ := h
  have c3 : W.cell? ⟨g, 3, none⟩ = some (.int .i64 d.left) := (blk_cell hb 3).trans rfl
  have f3 := blk_frozen hb 3
  have HH := Aside0.mk H
  have HBB := Aside0.mk hB
  have Hb := Aside0.mk hb
  clear H hB hb
  unfold armD
  by_cases h0 : c < 0
  · rw [if_pos h0]
    go_enter Try.func19, Try.ntmps19
    go_wp2
    go_end0
    exact ⟨rfl, HH.out.set_left 0 (by omega) (by omega), HBB.out.setCell hge _, (KeepD.refl W).set Hb.out _⟩
  · rw [if_neg h0]
    go_enter Try.func19, Try.ntmps19
    go_wp2
    go_end0
    exact ⟨rfl, HH.out.set_left c (by omega) (by omega), HBB.out.setCell hge _, (KeepD.refl W).set Hb.out _⟩
end Go.Proofs.Ytmghgghheebnjaa.Dis
