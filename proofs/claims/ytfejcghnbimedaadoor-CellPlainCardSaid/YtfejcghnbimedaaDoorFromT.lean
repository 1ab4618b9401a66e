/- cell.From at the values that the law CellPlain hands it, as told contracts. -/
import Derived.Test.YtfejcghnbimedaaDoorAnyW
namespace Go.Proofs.YtfejcghnbimedaaDoor.Giv
open Go.Proofs.YtfejcghnbimedaaDoor.PDecB Go.Proofs.YtfejcghnbimedaaDoor.Fld Go.Proofs.YtfejcghnbimedaaDoor.PCell
open Go.RowKit Go.Proofs.YtfejcghnbimedaaDoorW.PrintWords Go.Proofs.YtfejcghnbimedaaDoorW.PrintLast Go.Proofs.YtfejcghnbimedaaDoorW.PrintMore
set_option linter.unusedVariables false
def cell_FromN.f (n : Int) : Option (Int × Int × ByteArray × Bool) := some (1, n, (⟨#[]⟩ : ByteArray), true)
theorem cell_FromN.calls (a0 : Int) (r1 r2 : Int) (r3 : ByteArray) (r4 : Bool) (w : World) (h : cell_FromN.f a0 = some (r1, r2, r3, r4)) :
    Calls Tryd.prog 22 #[.iface 2 (.int .i64 a0)] w fun e w' => e = .returned (.tuple #[.agg #[.int .i64 r1, .int .i64 r2, .string r3], .bool r4]) ∧ Below w.heap.size w w' := by
  unfold cell_FromN.f at h
  simp only [Option.some.injEq, Prod.mk.injEq] at h
  obtain ⟨rfl, rfl, rfl, rfl⟩ := h
  exact from_n a0 w
def cell_FromS.f (s : ByteArray) : Option (Int × Int × ByteArray × Bool) := some (2, 0, s, true)
theorem cell_FromS.calls (a0 : ByteArray) (r1 r2 : Int) (r3 : ByteArray) (r4 : Bool) (w : World) (h : cell_FromS.f a0 = some (r1, r2, r3, r4)) :
    Calls Tryd.prog 22 #[.iface 9 (.string a0)] w fun e w' => e = .returned (.tuple #[.agg #[.int .i64 r1, .int .i64 r2, .string r3], .bool r4]) ∧ Below w.heap.size w w' := by
  unfold cell_FromS.f at h
  simp only [Option.some.injEq, Prod.mk.injEq] at h
  obtain ⟨rfl, rfl, rfl, rfl⟩ := h
  exact from_s a0 w
def cell_FromI.f (n : Int) : Option (Int × Int × ByteArray × Bool) := some (0, 0, (⟨#[]⟩ : ByteArray), false)
theorem cell_FromI.calls (a0 : Int) (r1 r2 : Int) (r3 : ByteArray) (r4 : Bool) (w : World) (h : cell_FromI.f a0 = some (r1, r2, r3, r4)) :
    Calls Tryd.prog 22 #[.iface 3 (.int .i64 a0)] w fun e w' => e = .returned (.tuple #[.agg #[.int .i64 r1, .int .i64 r2, .string r3], .bool r4]) ∧ Below w.heap.size w w' := by
  unfold cell_FromI.f at h
  simp only [Option.some.injEq, Prod.mk.injEq] at h
  obtain ⟨rfl, rfl, rfl, rfl⟩ := h
  exact from_i a0 w
def cell_FromC.f (k n : Int) (s : ByteArray) : Option (Int × Int × ByteArray × Bool) := if k = 3 then (if cell_can.f k n s = some true then some (k, n, s, true) else none) else some (0, 0, (⟨#[]⟩ : ByteArray), false)
theorem cell_FromC.calls (a0 a1 : Int) (a2 : ByteArray) (r1 r2 : Int) (r3 : ByteArray) (r4 : Bool) (w : World) (h : cell_FromC.f a0 a1 a2 = some (r1, r2, r3, r4)) :
    Calls Tryd.prog 22 #[.iface 23 (.agg #[.int .i64 a0, .int .i64 a1, .string a2])] w fun e w' => e = .returned (.tuple #[.agg #[.int .i64 r1, .int .i64 r2, .string r3], .bool r4]) ∧ Below w.heap.size w w' := by
  unfold cell_FromC.f at h
  by_cases c3 : a0 = 3
  · rw [if_pos c3] at h
    by_cases hc : cell_can.f a0 a1 a2 = some true
    · rw [if_pos hc] at h
      simp only [Option.some.injEq, Prod.mk.injEq] at h
      obtain ⟨rfl, rfl, rfl, rfl⟩ := h
      exact from_c_yes _ _ _ w c3 hc
    · rw [if_neg hc] at h; cases h
  · rw [if_neg c3] at h
    simp only [Option.some.injEq, Prod.mk.injEq] at h
    obtain ⟨rfl, rfl, rfl, rfl⟩ := h
    exact from_c_no a0 a1 a2 w c3
def cell_FromV.f (r k n : Int) (s : ByteArray) : Option (Int × Int × ByteArray × Bool) :=
  if r = 0 then some (0, 0, (⟨#[]⟩ : ByteArray), true) else if r = 1 then cell_FromN.f n else if r = 2 then cell_FromS.f s else cell_FromC.f k n s
theorem cell_FromV.calls (t a0 a1 : Int) (a2 : ByteArray) (r1 r2 : Int) (r3 : ByteArray) (r4 : Bool) (w : World) (h : cell_FromV.f t a0 a1 a2 = some (r1, r2, r3, r4)) :
    Calls Tryd.prog 22 #[anyC t a0 a1 a2] w fun e w' => e = .returned (.tuple #[.agg #[.int .i64 r1, .int .i64 r2, .string r3], .bool r4]) ∧ Below w.heap.size w w' := by
  unfold cell_FromV.f at h
  unfold anyC
  by_cases c0 : t = 0
  · rw [if_pos c0] at h ⊢
    simp only [Option.some.injEq, Prod.mk.injEq] at h
    obtain ⟨rfl, rfl, rfl, rfl⟩ := h
    exact from_nil w
  · rw [if_neg c0] at h ⊢
    by_cases c1 : t = 1
    · rw [if_pos c1] at h ⊢; exact cell_FromN.calls a1 r1 r2 r3 r4 w h
    · rw [if_neg c1] at h ⊢
      by_cases c2 : t = 2
      · rw [if_pos c2] at h ⊢; exact cell_FromS.calls a2 r1 r2 r3 r4 w h
      · rw [if_neg c2] at h ⊢; exact cell_FromC.calls a0 a1 a2 r1 r2 r3 r4 w h
/-- Whether it is nil. -/
theorem anyC_nil (t k n : Int) (s : ByteArray) (w : World) : (binOp .eql 20 (anyC t k n s) .nilIface).run Tryd.prog w = .ok (.bool (t == 0)) w := by
  unfold anyC
  by_cases c0 : t = 0
  · rw [if_pos c0, c0]; kernel_rfl
  · rw [if_neg c0, beq_eq_false_iff_ne.2 c0]
    by_cases c1 : t = 1
    · rw [if_pos c1]; kernel_rfl
    · rw [if_neg c1]
      by_cases c2 : t = 2
      · rw [if_pos c2]; kernel_rfl
      · rw [if_neg c2]; kernel_rfl
theorem anyC_guard (t k n : Int) (s : ByteArray) (x : Operand) (w : World) : (eqGuard .eql 20 x (.const .nilIface) (anyC t k n s) .nilIface).run Tryd.prog w = .ok () w := by
  unfold anyC
  by_cases c0 : t = 0
  · rw [if_pos c0]; cases x <;> rfl
  · rw [if_neg c0]
    by_cases c1 : t = 1
    · rw [if_pos c1]; cases x <;> rfl
    · rw [if_neg c1]
      by_cases c2 : t = 2
      · rw [if_pos c2]; cases x <;> rfl
      · rw [if_neg c2]; cases x <;> rfl
end Go.Proofs.YtfejcghnbimedaaDoor.Giv
