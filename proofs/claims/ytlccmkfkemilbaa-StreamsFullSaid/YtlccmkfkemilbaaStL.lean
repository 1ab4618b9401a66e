/- StreamsPrints at no name, walked by hand. -/
import Derived.Test.YtlccmkfkemilbaaStK
namespace Go.Proofs.Ytlccmkfkemilbaa.Bld
open Go.RowKit Go.Lib Go.Proofs.YtlccmkfkemilbaaW.PrintWords Go.Proofs.YtlccmkfkemilbaaW.PrintLast Go.Proofs.YtlccmkfkemilbaaW.PrintMore
set_option linter.unusedVariables false
set_option linter.unusedSimpArgs false
set_option maxHeartbeats 4000000 in
set_option maxRecDepth 100000 in
theorem prints_none (W : World) (A : Option Addr) (n c : Nat) (name : ByteArray) (hname : (name.toList == []) = true) :
    Calls Try.prog 4 #[.slice A n c, .string name] W fun e w' => e = .returned (.bool true) ∧ Below W.heap.size W w' := by
  go_enter Try.func4, Try.ntmps4
  go_wp2_with (first
    | (go_at_call 5; refine (new_calls W).mono ?_; rintro e w1 ⟨g, rfl, h1, h2⟩; have H1 := Aside0.mk h1; have HB1 := Aside0.mk h2; clear h1 h2)
    | (go_at_call 12; refine (lives_calls w1).mono ?_; rintro e w2 ⟨rfl, h1⟩; have HB2 := Aside0.mk (HB1.out.trans (h1.mono HB1.out.size)); clear h1))
  go_ret
  exact ⟨rfl, HB2.out⟩
end Go.Proofs.Ytlccmkfkemilbaa.Bld
