/- The function Parse of package dec comes to the plain function parseV. -/
import Derived.Test.YtfejcghnbimedaaDoorParse
import Derived.Test.YtfejcghnbimedaaDoorMulS
import Derived.WalkKit
import Derived.KernelRfl
import Derived.WalkLawsBesides
import Derived.WalkSpells
import Derived.Lib.Hide
import Derived.Laws.Externs
namespace Go.Proofs.YtfejcghnbimedaaDoor.Giv
open Go.RowKit Go.Proofs.YtfejcghnbimedaaDoor.PDecB Go.Proofs.YtfejcghnbimedaaDoorW.PrintWords
set_option linter.unusedVariables false
set_option linter.unusedSimpArgs false

theorem mul_any (x y : Int) (w : World) (hx0 : 0 ≤ x) (hy0 : 0 ≤ y) (hx : x < 18446744073709551616) (hy : y < 18446744073709551616) :
    Calls Tryd.prog 47 #[.int .u64 x, .int .u64 y] w fun e w' => e = .returned (.tuple #[.int .u64 (x * y / 18446744073709551616), .int .u64 (x * y % 18446744073709551616)]) ∧ Drawn0 w w' :=
  bits_Mul64.calls x y _ _ w (mul64_spec x y hx0 hy0 hx hy)

/-- What a reader holds. -/
def Holds (B : Nat) (st : St) (w : World) : Prop := w.cell? ⟨B, 0, none⟩ = some (.int .u64 st.1) ∧ w.cell? ⟨B, 1, none⟩ = some (.bool st.2) ∧ w.frozen? ⟨B, 0, none⟩ = false ∧ w.frozen? ⟨B, 1, none⟩ = false ∧ B < w.heap.size

theorem Holds.set {B : Nat} {st : St} {w : World} (h : Holds B st w) (nd : Nat) (n : Int) (o : Bool) : Holds B (n, o) (((w.drewN nd).setCell ⟨B, 0, none⟩ (.int .u64 n)).setCell ⟨B, 1, none⟩ (.bool o)) := by
  obtain ⟨h0, h1, z0, z1, hlt⟩ := h
  have hne : (⟨B, 1, none⟩ : Addr) ≠ ⟨B, 0, none⟩ := by intro e; injection e with _ e2; cases e2
  refine ⟨?_, ?_, ?_, ?_, ?_⟩
  · rw [World.cell?_setCell_other _ _ _ _ hne]
    exact World.cell?_setCell_same _ _ _ h0
  · refine World.cell?_setCell_same _ _ (.bool o) (u := .bool st.2) ?_
    rw [World.cell?_setCell_other _ _ _ _ hne.symm]
    exact h1
  · rw [World.frozen?_setCell, World.frozen?_setCell]; exact z0
  · rw [World.frozen?_setCell, World.frozen?_setCell]; exact z1
  · simpa [World.setCell] using hlt
theorem below_set2 {B : Nat} (w : World) (nd : Nat) (u v : Value) : Below B w (((w.drewN nd).setCell ⟨B, 0, none⟩ u).setCell ⟨B, 1, none⟩ v) :=
  ((below_drewN (Below.refl _ _) nd).setCell (p := ⟨B, 0, none⟩) (Nat.le_refl _) _).setCell (p := ⟨B, 1, none⟩) (Nat.le_refl _) _

set_option maxRecDepth 1000000 in
theorem next_any (B : Nat) (st : St) (d x : Int) (w : World) (hd0 : 48 ≤ d) (hd1 : d ≤ 57) (hx0 : 0 ≤ x) (hx1 : x ≤ 1000000) (hn0 : 0 ≤ st.1) (hn1 : st.1 < 18446744073709551616) (hH : Holds B st w) :
    Calls Tryd.prog 48 #[.pointer (some ⟨B, 0, none⟩), .int .u8 d, .int .u64 x] w fun e w' => e = .returned (.tuple #[]) ∧ Holds B (addw st ((d - 48) * x)) w' ∧ Below B w w' := by
  have HH := Lib.hid hH
  obtain ⟨h0, h1, z0, z1, hlt⟩ := hH
  have hm0 : 0 ≤ (d - 48) * x := Int.mul_nonneg (by omega) hx0
  have hm1 : (d - 48) * x ≤ 9 * 1000000 := Int.mul_le_mul (by omega) hx1 hx0 (by omega)
  obtain ⟨p, hp⟩ : ∃ p, p = (d - 48) * x := ⟨_, rfl⟩
  have hmul : ∀ w2, Calls Tryd.prog 47 #[.int .u64 (d - 48), .int .u64 x] w2 fun e w' => e = .returned (.tuple #[.int .u64 0, .int .u64 p]) ∧ Drawn0 w2 w' := fun w2 => by
    have := mul_any (d - 48) x w2 (by omega) hx0 (by omega) (by omega)
    rw [← hp] at this
    have e1 : p / 18446744073709551616 = 0 := by omega
    have e2 : p % 18446744073709551616 = p := by omega
    rw [e1, e2] at this
    exact this
  have HM := Lib.hid hmul
  rw [← hp] at hm0 hm1 ⊢
  clear hp hmul
  obtain ⟨n, o⟩ := st
  simp only at hn0 hn1 h0 h1
  have hr : addw (n, o) p = ((n + p) % 18446744073709551616, o || decide (0 < (n + p) / 18446744073709551616)) := by
    unfold addw
    simp only
    congr 2
    exact decide_eq_decide.2 ⟨fun h => by omega, fun h => by omega⟩
  rw [hr]
  clear hr
  cases o
  · rw [Bool.false_or]
    go_enter Tryd.func48, Tryd.ntmps48
    go_wp2_with (go_at_call 47; refine (HM.out _).mono ?_; rintro e w' ⟨rfl, ⟨nd, rfl⟩⟩)
    rw [run_callFunc_extern Tryd.func59 (by kernel_rfl) (by kernel_rfl) (by kernel_rfl) (e := add64Entry) (by kernel_rfl), run_add64 n p 0 hn0 hm0 (by omega) (by omega)]
    simp only [Result.andThen]
    rw [Oper.upon_value]
    go_wp2
    go_end0
    exact ⟨rfl, HH.out.set nd _ _, below_set2 _ _ _ _⟩
  · rw [Bool.true_or]
    go_enter Tryd.func48, Tryd.ntmps48
    go_wp2_with (go_at_call 47; refine (HM.out _).mono ?_; rintro e w' ⟨rfl, ⟨nd, rfl⟩⟩)
    rw [run_callFunc_extern Tryd.func59 (by kernel_rfl) (by kernel_rfl) (by kernel_rfl) (e := add64Entry) (by kernel_rfl), run_add64 n p 0 hn0 hm0 (by omega) (by omega)]
    simp only [Result.andThen]
    rw [Oper.upon_value]
    go_wp2
    go_end0
    exact ⟨rfl, HH.out.set nd _ _, below_set2 _ _ _ _⟩

end Go.Proofs.YtfejcghnbimedaaDoor.Giv
