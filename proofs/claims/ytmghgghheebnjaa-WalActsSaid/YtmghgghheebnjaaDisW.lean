/- Disk.Write, walked by hand. -/
import Derived.Test.YtmghgghheebnjaaDisB
import Derived.Test.YtmghgghheebnjaaDisO
namespace Go.Proofs.Ytmghgghheebnjaa.Dis
open Go.RowKit Go.Proofs.YtmghgghheebnjaaW.PrintWords Go.Proofs.YtmghgghheebnjaaW.PrintLast Go.Proofs.YtmghgghheebnjaaW.PrintMore Go.Maps
set_option linter.unusedVariables false
set_option linter.unusedSimpArgs false
def pad (b : List Int) : List Int := b ++ List.replicate (512 - b.length) 0
def writeD (d : D) (i : Int) (b : List Int) : D × Int :=
  if (callD d).2 ≠ 0 then ((callD d).1, (callD d).2) else if thereD (callD d).1 i ≠ 0 then ((callD d).1, thereD (callD d).1 i) else if 512 < b.length then ((callD d).1, 2)
  else ({ (callD d).1 with since := (callD d).1.since ++ [(i, pad b)], cnt := (callD d).1.cnt + 1 }, 0)
theorem call_e (d : D) : (callD d).2 = 0 ∨ (callD d).2 = 190 := by
  unfold callD
  split
  · exact .inr rfl
  · exact .inl rfl
theorem there_e (d : D) (i : Int) : thereD d i = 0 ∨ thereD d i = 1 ∨ thereD d i = 8 := by
  unfold thereD
  split
  · exact .inr (.inl rfl)
  · split
    · exact .inr (.inr rfl)
    · exact .inl rfl
def OkB (b : List Int) : Prop := ∀ x ∈ b, 0 ≤ x ∧ x < 256
theorem pad_sec {b : List Int} (h : b.length ≤ 512) (ho : OkB b) : Sec (pad b) := by
  refine ⟨by unfold pad; rw [List.length_append, List.length_replicate]; omega, fun x hx => ?_⟩
  rcases List.mem_append.1 hx with h1 | h1
  · exact ho x h1
  · rw [(List.mem_replicate.1 h1).2]; omega
/-- Bytes that are read, and that no call on a disk turns. -/
def Lies (base : Nat) (W : World) (A : Option Addr) (b : List Int) : Prop := ∀ W', KeepD W W' → Below base W W' → Kd.C (Kd.int .u8) W' A b.length b
set_option maxHeartbeats 1000000 in
theorem write_no (base g : Nat) (d : D) (i : Int) (A : Option Addr) (c : Nat) (b : List Int) (w W : World) (h : IsD base W g d) (hB : Below base w W) (hl : Lies base W A b) (hr : (writeD d i b).2 ≠ 0) :
    Calls Try.prog 52 #[.pointer (some ⟨g, 0, none⟩), .int .i64 i, .slice A b.length c] W fun e w' => e = .returned (.int .i64 (writeD d i b).2) ∧ IsD base w' g (writeD d i b).1 ∧ Below base w w' ∧ KeepD W w' := by
  have hk := call_calls base g d w W h hB
  have ht := fun (w' : World) (h' : IsD base w' g (callD d).1) => there_calls base g (callD d).1 i w' h'
  have he := call_e d
  have ht2 := there_e (callD d).1 i
  unfold writeD at hr ⊢
  obtain ⟨e1, he1⟩ : ∃ e1, e1 = (callD d).2 := ⟨_, rfl⟩
  obtain ⟨d1, hd1⟩ : ∃ d1, d1 = (callD d).1 := ⟨_, rfl⟩
  rw [← he1, ← hd1] at hr ⊢ hk
  rw [← he1] at he
  rw [← hd1] at ht ht2
  obtain ⟨t1, ht1⟩ : ∃ t1, t1 = thereD d1 i := ⟨_, rfl⟩
  rw [← ht1] at hr ⊢ ht2 ht
  clear he1 hd1 ht1
  have HK := Aside0.mk hk
  have HT := Aside0.mk ht
  clear hk ht hl h hB
  by_cases c1 : e1 = 0
  · subst c1
    rw [if_neg (by simp)] at hr ⊢
    clear he
    by_cases c2 : t1 = 0
    · subst c2
      rw [if_neg (by simp)] at hr ⊢
      clear ht2
      by_cases c3 : 512 < b.length
      · rw [if_pos c3] at hr ⊢
        clear hr
        go_enter Try.func52, Try.ntmps52
        go_wp2_with (first | (go_at_call 67; with_reducible refine HK.out.mono ?_; rintro e w1 ⟨rfl, hi, hb, hk1⟩; have HI := Aside0.mk hi; have HB := Aside0.mk hb; have HKK := Aside0.mk hk1; clear hi hb hk1) | (go_at_call 68; with_reducible refine (HT.out _ HI.out).mono ?_; rintro e w2 ⟨rfl, rfl⟩))
        go_ret
        exact ⟨rfl, HI.out, HB.out, HKK.out⟩
      · rw [if_neg c3] at hr; exact absurd rfl hr
    · rw [if_pos c2] at hr ⊢
      clear hr
      have e0 : (t1 == 0) = false := by simp [c2]
      have e0' : (t1 != 0) = true := by simp [c2]
      clear ht2
      go_enter Try.func52, Try.ntmps52
      go_wp2_with (first | (go_at_call 67; with_reducible refine HK.out.mono ?_; rintro e w1 ⟨rfl, hi, hb, hk1⟩; have HI := Aside0.mk hi; have HB := Aside0.mk hb; have HKK := Aside0.mk hk1; clear hi hb hk1) | (go_at_call 68; with_reducible refine (HT.out _ HI.out).mono ?_; rintro e w2 ⟨rfl, rfl⟩))
      go_ret
      exact ⟨rfl, HI.out, HB.out, HKK.out⟩
  · rw [if_pos c1] at hr ⊢
    clear hr
    have e0 : (e1 == 0) = false := by simp [c1]
    have e0' : (e1 != 0) = true := by simp [c1]
    clear he ht2
    go_enter Try.func52, Try.ntmps52
    go_wp2_with (first | (go_at_call 67; with_reducible refine HK.out.mono ?_; rintro e w1 ⟨rfl, hi, hb, hk1⟩; have HI := Aside0.mk hi; have HB := Aside0.mk hb; have HKK := Aside0.mk hk1; clear hi hb hk1))
    go_ret
    exact ⟨rfl, HI.out, HB.out, HKK.out⟩
end Go.Proofs.Ytmghgghheebnjaa.Dis
