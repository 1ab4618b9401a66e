/- The living call of chapter 15, in plain Lean. -/
import Derived.Test.YtdcakdloakammaaPCodx5
import Derived.Test.YtdcakdloakammaaGivQ
set_option linter.unusedVariables false
set_option linter.unusedSimpArgs false
namespace Go.Proofs.Ytdcakdloakammaa.Pure
open Go.RowKit Go.Proofs.Ytdcakdloakammaa.PCod Go.Proofs.YtdcakdloakammaaW.PrintWords Go.Proofs.YtdcakdloakammaaW.PrintLast Go.Proofs.Ytdcakdloakammaa.Giv
theorem clParse : dec_Parse.f (⟨#[51, 120]⟩ : ByteArray) = some (3000000, 1, 0) := by
  unfold dec_Parse.f
  rw [if_pos (by decide)]
  decide +kernel
theorem clN1 (i : Nat) : cell_Num.f (i + 2) 2 0 (⟨#[51, 120]⟩ : ByteArray) = some (3000000, 0) := by
  unfold cell_Num.f
  rw [if_neg (by decide)]
  have e : ((2 : Int) == 3) = false := by decide
  rw [e]
  simp only [cell_Num.j0]
  rw [if_neg (by simp), if_pos trivial, clParse]
  rfl
theorem clN2 (i : Nat) (m : Int) : cell_Num.f (i + 2) 1 m (⟨#[]⟩ : ByteArray) = some (m, 0) := by
  unfold cell_Num.f
  rw [if_pos rfl]
  have e : ((1 : Int) == 1) = true := by decide
  rw [e]
  simp only [cell_Num.j0]
  rw [if_pos trivial]
theorem clR : code_reckon.f (⟨#[43]⟩ : ByteArray) 3000000 1000000 = some (4000000, 0) := by decide +kernel
theorem clNum (m : Int) : code_number.f m 0 = some (1, m, ⟨#[]⟩, 0) := rfl
theorem clT0 (j : Nat) (r : Int × Int × ByteArray × Int) (h : code_Two.j0 j (⟨#[43]⟩ : ByteArray) true 2 0 (⟨#[51, 120]⟩ : ByteArray) 1 1000000 (⟨#[]⟩ : ByteArray) = some r) : code_Two.f j (⟨#[43]⟩ : ByteArray) 2 0 (⟨#[51, 120]⟩ : ByteArray) 1 1000000 (⟨#[]⟩ : ByteArray) = some r := by
  unfold code_Two.f
  rw [if_pos (by decide +kernel)]
  have eb : ((⟨#[43]⟩ : ByteArray).toList == ([43] : List UInt8)) = true := by decide +kernel
  rw [eb]
  exact h
theorem clT1 (i : Nat) (x y : ByteArray) (n : Int) (m m' q : Int) (a1 : cell_Num.f i 2 n x = some (m, 0)) (a2 : cell_Num.f i 1 m' y = some (m', 0)) (a3 : code_reckon.f (⟨#[43]⟩ : ByteArray) m m' = some (q, 0)) :
    code_Two.j0 (i + 1) (⟨#[43]⟩ : ByteArray) true 2 n x 1 m' y = some (1, q, ⟨#[]⟩, 0) := by
  simp only [code_Two.j0]
  rw [if_pos trivial, a1]
  simp only [Option.bind_some]
  rw [if_pos trivial, a2]
  simp only [Option.bind_some]
  rw [if_pos trivial, a3]
  simp only [Option.bind_some]
  rw [clNum]
  simp only [Option.bind_some]
theorem clT (j : Nat) : code_Two.f (j + 3) (⟨#[43]⟩ : ByteArray) 2 0 (⟨#[51, 120]⟩ : ByteArray) 1 1000000 (⟨#[]⟩ : ByteArray) = some (1, 4000000, ⟨#[]⟩, 0) :=
  clT0 _ _ (clT1 (j + 2) _ _ _ _ _ _ (clN1 j) (clN2 j _) clR)
theorem code_lives : Ev (fun k => aukletlaw15_lives.f k) true := by
  refine ⟨3, fun k hk => ?_⟩
  obtain ⟨j, rfl⟩ : ∃ j, k = j + 3 := ⟨k - 3, by omega⟩
  show aukletlaw15_lives.f (j + 3) = some true
  unfold aukletlaw15_lives.f
  rw [clT]
  simp only [Option.bind_some]
  rw [if_pos (by decide +kernel), if_pos trivial]
  decide +kernel
end Go.Proofs.Ytdcakdloakammaa.Pure
