/- The law on texts that would be too long, in plain Lean. -/
import Derived.Test.YtdcakdloakammaaPCodx6
import Derived.Test.YtdcakdloakammaaCLiv
import Derived.Test.YtdcakdloakammaaGivQ
set_option linter.unusedVariables false
set_option linter.unusedSimpArgs false
namespace Go.Proofs.Ytdcakdloakammaa.Pure
open Go.RowKit Go.Proofs.Ytdcakdloakammaa.PCod Go.Proofs.YtdcakdloakammaaW.PrintWords Go.Proofs.YtdcakdloakammaaW.PrintLast Go.Proofs.Ytdcakdloakammaa.Giv
theorem wrap_in {x : Int} (h0 : -9223372036854775808 ≤ x) (h1 : x ≤ 9223372036854775807) : wrap64 x = x := by unfold wrap64; omega
theorem repl_size (n : Nat) : (strOfNums (List.replicate n 0)).size = n := by
  unfold strOfNums
  simp [ByteArray.size]
theorem CodeLong : aukletlaw15_CodeLong.Pure := by
  intro a b wa wb
  have ha : 0 ≤ a ∧ a ≤ 65535 := by
    have h' : IntKind.u16.min ≤ a ∧ a ≤ IntKind.u16.max := by simpa [Lit.wf] using wa
    have e : IntKind.u16.min = 0 := by decide
    have e' : IntKind.u16.max = 65535 := by decide
    omega
  have hb : 0 ≤ b ∧ b ≤ 65535 := by
    have h' : IntKind.u16.min ≤ b ∧ b ≤ IntKind.u16.max := by simpa [Lit.wf] using wb
    have e : IntKind.u16.min = 0 := by decide
    have e' : IntKind.u16.max = 65535 := by decide
    omega
  suffices h : Ev (fun k => aukletlaw15_CodeLong.f k a b) true from h.rounds
  have hl : Ev (fun k => (aukletlaw15_lives.f k).bind fun t => some t) true := Ev.bind code_lives (Ev.now _)
  have e0 : wrap64 a = a := wrap_in (by omega) (by omega)
  have e1 : wrap64 b = b := wrap_in (by omega) (by omega)
  have e2 : wrap64 (a + b) = a + b := wrap_in (by omega) (by omega)
  have sa := repl_size a.toNat
  have sb := repl_size b.toNat
  unfold aukletlaw15_CodeLong.f
  simp only [e0, e1, e2, if_pos ha.1, if_pos hb.1, if_pos (show a.toNat ≤ 281474976710656 by omega), if_pos (show b.toNat ≤ 281474976710656 by omega)]
  generalize strOfNums (List.replicate a.toNat 0) = A at sa
  generalize strOfNums (List.replicate b.toNat 0) = B at sb
  have sc : (A ++ B).size = A.size + B.size := ByteArray.size_append
  have eJ : code_Join.f 2 0 A 2 0 B = if (A ++ B).size > 65536 then some (0, 0, (⟨#[]⟩ : ByteArray), 2) else some (2, 0, A ++ B, 0) := by
    unfold code_Join.f cell_Str.f cell_str.f
    simp only [show ¬ (2 : Int) = 1 by omega, if_false, if_true, Option.bind_some]
    rw [if_pos (by omega)]
    unfold code_long.f cell_OfStr.f
    by_cases h : (A ++ B).size > 65536
    · rw [if_pos (by omega), if_pos h]; rfl
    · rw [if_neg (by omega), if_neg h]; rfl
  rw [eJ]
  by_cases h : a + b > 65536
  · rw [if_pos (show (A ++ B).size > 65536 by omega)]
    simp only [Option.bind_some, if_pos h]
    have e : (((0 : Int) == 0) && (((0 : Int) == 0) && ((⟨#[]⟩ : ByteArray).toList == ([] : List UInt8)))) = true := by decide +kernel
    simp only [e, if_true]
    exact hl
  · rw [if_neg (show ¬ (A ++ B).size > 65536 by omega)]
    simp only [Option.bind_some, if_neg h, if_pos (show ((A ++ B).size : Int) = a + b by omega), if_true]
    exact hl
end Go.Proofs.Ytdcakdloakammaa.Pure
