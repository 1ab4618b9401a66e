/- Wal: part; what record asks of its pages. -/
import Derived.Test.YtmghgghheebnjaaWalA
namespace Go.Proofs.Ytmghgghheebnjaa.Dis
open Go.RowKit Go.Proofs.YtmghgghheebnjaaW.PrintWords Go.Proofs.YtmghgghheebnjaaW.PrintLast Go.Proofs.YtmghgghheebnjaaW.PrintMore Go.Maps Go.Proofs.Ytmghgghheebnjaa.PWalRecords
set_option linter.unusedVariables false
set_option linter.unusedSimpArgs false
theorem takeC {α : Type} {k : Kd α} {w : World} {A : Option Addr} {n m : Nat} {xs : List α} (h : k.C w A n xs) (hm : m ≤ n) : k.C w A m (xs.take m) := by
  have hl : xs.length = n := h.1
  subst hl
  have := Kd.C_take (m := m) h hm
  rwa [show (xs.take m).length = m by rw [List.length_take]; omega] at this
theorem dropC {α : Type} {k : Kd α} {w : World} {A Ap : Option Addr} {n m c : Nat} {xs : List α} (h : k.C w A n xs) (hm : m ≤ n) (hc : n ≤ c) (hs : k.sz = 1) (hA : Ap = if c = m then A else A.map (·.add (m * 1))) : k.C w Ap (n - m) (xs.drop m) := by
  have hl : xs.length = n := h.1
  subst hl
  have := Kd.C_drop (m := m) (c := c) h hm hc
  rw [hs, List.length_drop] at this
  rw [hA]
  exact this
/-- A sector of a record. -/
def partP (s : List Int) (seq i n : Int) : Prop := s.length = 512 ∧ numB (s.take 8) = seq ∧ numB ((s.take 10).drop 8) = i ∧ numB ((s.take 12).drop 10) = n
set_option maxHeartbeats 4000000 in
set_option maxRecDepth 100000 in
theorem part_c {w : World} {A : Option Addr} {c : Nat} {s : List Int} {seq : Int} {i n : Nat} (hb : BytesOk s) (h : Kd.C (Kd.int .u8) w A s.length s) (hc : s.length ≤ c) (hi : i ≤ 1000) (hn : n ≤ 1000) (r : Bool) (hr : r = true ↔ partP s seq i n) :
    Calls Try.prog 66 #[.slice A s.length c, .int .u64 seq, .int .i64 (i : Int), .int .i64 (n : Int)] w fun e w' => e = .returned (.bool r) ∧ Below w.heap.size w w' := by
  have HR := Aside0.mk hr
  have HB := Aside0.mk hb
  have HC := Aside0.mk h
  clear hr hb h
  obtain ⟨m, hm⟩ : ∃ m, m = s.length := ⟨_, rfl⟩
  rw [← hm] at HC hc ⊢
  have HM := Aside0.mk hm
  clear hm
  by_cases h5 : m = 512
  · subst h5
    obtain ⟨ad, hA, _⟩ := HC.out.2.2 (by decide)
    subst hA
    have N1 := Aside0.mk (fun (w' : World) (hB : Below w.heap.size w w') => number_c (n := 8) (c := c) (l := s.take 8) (by rw [List.length_take, ← HM.out]; rfl) (by rw [List.length_take]; omega) (HB.out.take 8) (takeC (Kd.C_below HC.out hB) (by decide)) (by omega))
    have i1 : IntKind.u64.wrap (i : Int) = (i : Int) := u64_in (by omega) (by omega)
    have i2 : IntKind.u64.wrap (n : Int) = (n : Int) := u64_in (by omega) (by omega)
    have N2 := Aside0.mk (fun (w' : World) (hB : Below w.heap.size w w') => number_c (n := 2) (c := c - 8) (A := some (ad.add 8)) (l := (s.take 10).drop 8) (by rw [List.length_drop, List.length_take, ← HM.out]; rfl) (by rw [List.length_drop, List.length_take]; omega) ((HB.out.take 10).drop 8) (dropC (n := 10) (m := 8) (c := c) (takeC (Kd.C_below HC.out hB) (by decide)) (by decide) (by omega) rfl (by rw [if_neg (by omega)]; rfl)) (by omega))
    have N3 := Aside0.mk (fun (w' : World) (hB : Below w.heap.size w w') => number_c (n := 2) (c := c - 10) (A := some (ad.add 10)) (l := (s.take 12).drop 10) (by rw [List.length_drop, List.length_take, ← HM.out]; rfl) (by rw [List.length_drop, List.length_take]; omega) ((HB.out.take 12).drop 10) (dropC (n := 12) (m := 10) (c := c) (takeC (Kd.C_below HC.out hB) (by decide)) (by decide) (by omega) rfl (by rw [if_neg (by omega)]; rfl)) (by omega))
    have q8 : ¬ c = 8 := by omega
    have q10 : ¬ c = 10 := by omega
    have hr' : r = true ↔ (numB (s.take 8) = seq ∧ numB ((s.take 10).drop 8) = i ∧ numB ((s.take 12).drop 10) = n) := HR.out.trans ⟨fun h => h.2, fun h => ⟨HM.out.symm, h⟩⟩
    generalize numB (s.take 8) = x1 at N1 hr'
    generalize numB ((s.take 10).drop 8) = x2 at N2 hr'
    generalize numB ((s.take 12).drop 10) = x3 at N3 hr'
    have HR' := Aside0.mk hr'
    clear hr'
    go_enter Try.func66, Try.ntmps66
    by_cases e1 : x1 = seq
    · have f1 : (x1 == seq) = true := by simp [e1]
      by_cases e2 : x2 = (i : Int)
      · have f2 : (x2 == (i : Int)) = true := by simp [e2]
        have hr : r = (x3 == (n : Int)) := by
          have := HR'.out
          cases r <;> simp_all
        clear e1 e2
        go_wp2_with (go_at_call 45; first
          | (refine (N3.out w2 HB2.out).mono ?_; rintro e w3 ⟨rfl, h1⟩; have HB3 := Aside0.mk (HB2.out.trans (h1.mono HB2.out.size)); clear h1)
          | (refine (N2.out w1 HB1.out).mono ?_; rintro e w2 ⟨rfl, h1⟩; have HB2 := Aside0.mk (HB1.out.trans (h1.mono HB1.out.size)); clear h1)
          | (refine (N1.out w (Below.refl _ _)).mono ?_; rintro e w1 ⟨rfl, h1⟩; have HB1 := Aside0.mk h1; clear h1))
        go_ret
        exact ⟨by rw [hr]; rfl, HB3.out⟩
      · have f2 : (x2 == (i : Int)) = false := by simp [e2]
        obtain rfl : r = false := by
          cases r with
          | false => rfl
          | true => exact absurd (HR'.out.1 rfl).2.1 e2
        clear e1 e2
        go_wp2_with (go_at_call 45; first
          | (refine (N2.out w1 HB1.out).mono ?_; rintro e w2 ⟨rfl, h1⟩; have HB2 := Aside0.mk (HB1.out.trans (h1.mono HB1.out.size)); clear h1)
          | (refine (N1.out w (Below.refl _ _)).mono ?_; rintro e w1 ⟨rfl, h1⟩; have HB1 := Aside0.mk h1; clear h1))
        go_ret
        exact ⟨rfl, HB2.out⟩
    · have f1 : (x1 == seq) = false := by simp [e1]
      obtain rfl : r = false := by
        cases r with
        | false => rfl
        | true => exact absurd (HR'.out.1 rfl).1 e1
      clear e1
      go_wp2_with (go_at_call 45; first
        | (refine (N1.out w (Below.refl _ _)).mono ?_; rintro e w1 ⟨rfl, h1⟩; have HB1 := Aside0.mk h1; clear h1))
      go_ret
      exact ⟨rfl, HB1.out⟩
  · have f0 : decide ((m : Int) = 512) = false := decide_eq_false (by omega)
    obtain rfl : r = false := by
      cases r with
      | false => rfl
      | true => exact absurd (HM.out.trans (HR.out.1 rfl).1) h5
    go_enter Try.func66, Try.ntmps66
    go_wp2
    go_ret
    exact ⟨rfl, Below.refl _ _⟩
end Go.Proofs.Ytmghgghheebnjaa.Dis
