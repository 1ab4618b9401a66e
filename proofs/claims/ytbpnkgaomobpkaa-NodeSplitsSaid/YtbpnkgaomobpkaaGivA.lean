/- The two closures of node.can: walked by hand. -/
import Derived.Test.YtbpnkgaomobpkaaProg
import Derived.WalkKit
import Derived.Below
import Derived.Test.YtbpnkgaomobpkaaWWords
namespace Go.Proofs.Ytbpnkgaomobpkaa.Giv
open Go.RowKit Go.Proofs.YtbpnkgaomobpkaaW.PrintWords
set_option linter.unusedVariables false
def node_can1.f (s : ByteArray) : Option Bool := some (decide ((s.size : Int) > 40))
theorem node_can1.calls (a0 : ByteArray) (r : Bool) (w : World) (h : node_can1.f a0 = some r) :
    Calls Try.prog 50 #[.string a0] w fun e w' => e = .returned (.bool r) ∧ Drawn0 w w' := by
  obtain rfl := Option.some.inj h
  go_enter Try.func50, Try.ntmps50
  go_wp2
  go_ret
  exact ⟨rfl, by first | exact Drawn0.refl _ | skip⟩
def node_can2.f (n : Int) : Option Bool := some (decide (n < 1) || decide (n > 2147483647))
theorem node_can2.calls (a0 : Int) (r : Bool) (w : World) (h : node_can2.f a0 = some r) :
    Calls Try.prog 52 #[.int .i64 a0] w fun e w' => e = .returned (.bool r) ∧ Drawn0 w w' := by
  obtain rfl := Option.some.inj h
  by_cases c : a0 < 1
  · rw [decide_eq_true c, Bool.true_or]
    clear h
    go_enter Try.func52, Try.ntmps52
    go_wp2
    go_ret
    exact ⟨rfl, Drawn0.refl _⟩
  · rw [decide_eq_false c, Bool.false_or]
    clear h
    go_enter Try.func52, Try.ntmps52
    go_wp2
    go_ret
    exact ⟨rfl, Drawn0.refl _⟩
theorem leq_not : ∀ x y : List UInt8, (Op.bytesLess y x || y == x) = !(Op.bytesLess x y)
  | [], [] => rfl
  | [], b :: y => by simp [Op.bytesLess]
  | a :: x, [] => by simp [Op.bytesLess]
  | a :: x, b :: y => by
    have ih := leq_not x y
    simp only [Op.bytesLess, List.cons_beq_cons]
    by_cases h1 : a < b
    · have h2 : ¬ b < a := fun h => UInt8.lt_irrefl a (UInt8.lt_trans h1 h)
      have h3 : (b == a) = false := beq_eq_false_iff_ne.2 (fun e => UInt8.lt_irrefl a (e ▸ h1))
      simp [h1, h2, h3]
    · by_cases h2 : b < a
      · have h3 : (a == b) = false := beq_eq_false_iff_ne.2 (fun e => UInt8.lt_irrefl a (by rw [e] at h2 ⊢; exact h2))
        simp [h1, h2, h3]
      · have e : a = b := UInt8.toNat_inj.1 (by rw [UInt8.lt_iff_toNat_lt] at h1 h2; omega)
        subst e
        simp only [h1, decide_false, Bool.false_or, beq_self_eq_true, Bool.true_and]
        exact ih
theorem leqF {x y : List UInt8} (h : Op.bytesLess x y = true) : (Op.bytesLess y x || y == x) = false := by rw [leq_not, h]; rfl
theorem leqT {x y : List UInt8} (h : Op.bytesLess x y = false) : (Op.bytesLess y x || y == x) = true := by rw [leq_not, h]; rfl
end Go.Proofs.Ytbpnkgaomobpkaa.Giv
