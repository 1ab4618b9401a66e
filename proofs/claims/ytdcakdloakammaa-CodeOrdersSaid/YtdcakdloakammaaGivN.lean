/- Four of dec's functions that the statements on orders and on lengths do not come to: nothing is told of what they give (no value at all), so nothing is to be shown. -/
import Derived.Test.YtdcakdloakammaaProg
import Derived.WalkKit
import Derived.Below
import Derived.Test.YtdcakdloakammaaWWords
namespace Go.Proofs.Ytdcakdloakammaa.Giv
open Go.RowKit Go.Proofs.YtdcakdloakammaaW.PrintWords
set_option linter.unusedVariables false
def dec_Sub.f (a b : Int) : Option (Int × Int) := none
theorem dec_Sub.calls (a0 a1 r1 r2 : Int) (w : World) (h : dec_Sub.f a0 a1 = some (r1, r2)) :
    Calls Try.prog 41 #[.int .i64 a0, .int .i64 a1] w fun e w' => e = .returned (.tuple #[.int .i64 r1, .int .i64 r2]) ∧ Drawn0 w w' := by cases h
def dec_Mul.f (a b : Int) : Option (Int × Int) := none
theorem dec_Mul.calls (a0 a1 r1 r2 : Int) (w : World) (h : dec_Mul.f a0 a1 = some (r1, r2)) :
    Calls Try.prog 42 #[.int .i64 a0, .int .i64 a1] w fun e w' => e = .returned (.tuple #[.int .i64 r1, .int .i64 r2]) ∧ Drawn0 w w' := by cases h
def dec_Div.f (a b : Int) : Option (Int × Int) := none
theorem dec_Div.calls (a0 a1 r1 r2 : Int) (w : World) (h : dec_Div.f a0 a1 = some (r1, r2)) :
    Calls Try.prog 43 #[.int .i64 a0, .int .i64 a1] w fun e w' => e = .returned (.tuple #[.int .i64 r1, .int .i64 r2]) ∧ Drawn0 w w' := by cases h
def dec_Mod.f (a b : Int) : Option (Int × Int) := none
theorem dec_Mod.calls (a0 a1 r1 r2 : Int) (w : World) (h : dec_Mod.f a0 a1 = some (r1, r2)) :
    Calls Try.prog 44 #[.int .i64 a0, .int .i64 a1] w fun e w' => e = .returned (.tuple #[.int .i64 r1, .int .i64 r2]) ∧ Drawn0 w w' := by cases h
end Go.Proofs.Ytdcakdloakammaa.Giv
