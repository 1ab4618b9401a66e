/- node.Split, walked by hand (written by mksplb.py). -/
import Derived.Test.YtbpnkgaomobpkaaSplA
namespace Go.Proofs.Ytbpnkgaomobpkaa.Mrg
open Go.RowKit Go.Proofs.Ytbpnkgaomobpkaa.PNxu Go.Proofs.YtbpnkgaomobpkaaW.PrintWords Go.Proofs.YtbpnkgaomobpkaaW.PrintLast Go.Proofs.YtbpnkgaomobpkaaW.PrintMore Go.Proofs.Ytbpnkgaomobpkaa.Pure
set_option linter.unusedVariables false
set_option linter.unusedSimpArgs false
theorem map_add0 (A : Option Addr) : A.map (fun a => a.add 0) = A := by cases A <;> simp [Addr.add]
theorem ex_hi {o : Oper} {a : Act} {W : World} {t e : TypeId} {x y : Operand} {A : Option Addr} {n c m : Nat} (hu : ∀ w, (underlying t).run Try.prog w = .ok (.slice e) w) (hs : ∀ w, (sizeOf e).run Try.prog w = .ok 1 w) (ho : o.op = .slice t x none (some y) none) (hx : a.eval x = .slice A n c) (hy : a.eval y = .int .i64 ((m : Nat) : Int)) (h : m ≤ c) : (execOp a.eval o).run Try.prog W = .ok (.value (.slice A m c)) W := by
  have e1 : (Instr.slice t (Value.slice A n c) none (some (Value.int IntKind.i64 ((m : Nat) : Int))) none).run Try.prog W = .ok (.slice A m c) W := by
    have hm : (m : Int) ≤ c := by omega
    simp [Instr.slice, Instr.sliceBounds, Instr.sliceBound, asIntOf, hu, hs, h, hm, map_add0]
  have e2 : (Instr.sliceAt t (Value.slice A n c) none (some (Value.int IntKind.i64 ((m : Nat) : Int))) none).run Try.prog W = .ok (.slice A m c) W := by
    simp [Instr.sliceAt, hu, e1]
  simp [execOp, ho, hx, hy, e2]
theorem ex_lo {o : Oper} {a : Act} {W : World} {t e : TypeId} {x y : Operand} {A Ap : Option Addr} {n c m : Nat} (hu : ∀ w, (underlying t).run Try.prog w = .ok (.slice e) w) (hs : ∀ w, (sizeOf e).run Try.prog w = .ok 1 w) (ho : o.op = .slice t x (some y) none none) (hx : a.eval x = .slice A n c) (hy : a.eval y = .int .i64 ((m : Nat) : Int)) (h : m ≤ n) (hA : Ap = if c = m then A else A.map (·.add (m * 1))) : (execOp a.eval o).run Try.prog W = .ok (.value (.slice Ap (n - m) (c - m))) W := by
  have e1 : (Instr.slice t (Value.slice A n c) (some (Value.int IntKind.i64 ((m : Nat) : Int))) none none).run Try.prog W = .ok (.slice Ap (n - m) (c - m)) W := by
    have hm : (m : Int) ≤ n := by omega
    subst hA
    simp [Instr.slice, Instr.sliceBounds, Instr.sliceBound, asIntOf, hu, hs, h, hm]
  have e2 : (Instr.sliceAt t (Value.slice A n c) (some (Value.int IntKind.i64 ((m : Nat) : Int))) none none).run Try.prog W = .ok (.slice Ap (n - m) (c - m)) W := by
    simp [Instr.sliceAt, hu, e1]
  simp [execOp, ho, hx, hy, e2]
theorem und22 (w : World) : (underlying 22).run Try.prog w = .ok (.slice 9) w := by kernel_rfl
theorem und23 (w : World) : (underlying 23).run Try.prog w = .ok (.slice 3) w := by kernel_rfl
theorem size9 (w : World) : (sizeOf 9).run Try.prog w = .ok 1 w := by kernel_rfl
theorem size3 (w : World) : (sizeOf 3).run Try.prog w = .ok 1 w := by kernel_rfl
/-! ### What a block is parted into -/
def keepN (b : Bool) : Nat := if b then 1 else 2
def SplitP (b : Bool) (K V : List ByteArray) (D : List Int) : Prop := CanP b K V D ∧ 509 < needTo b K V K.length ∧ keepN b < K.length
def xV (b : Bool) (V : List ByteArray) (c : Nat) : List ByteArray := if b then V.take c else []
def xD (b : Bool) (D : List Int) (c : Nat) : List Int := if b then [] else D.take (c + 1)
def yK (b : Bool) (K : List ByteArray) (c : Nat) : List ByteArray := if b then K.drop c else K.drop (c + 1)
def yV (b : Bool) (V : List ByteArray) (c : Nat) : List ByteArray := if b then V.drop c else []
def yD (b : Bool) (D : List Int) (c : Nat) : List Int := if b then [] else D.drop (c + 1)
/-- What Split gives back. -/
def SplR (base : Nat) (w : World) (v : Value) (m b : Bool) (K V : List ByteArray) (D : List Int) : Prop :=
  (m = false ∧ v = .tuple #[.agg #[.bool false, .slice none 0 0, .slice none 0 0, .slice none 0 0], .string ⟨#[]⟩, .agg #[.bool false, .slice none 0 0, .slice none 0 0, .slice none 0 0], .bool false]) ∨
  (m = true ∧ ∃ (c : Nat) (p q : At), IsCut b K V (K.length - keepN b) c ∧
    v = .tuple #[.agg #[.bool b, .slice p.a1 (K.take c).length p.c1, .slice p.a2 (xV b V c).length p.c2, .slice p.a3 (xD b D c).length p.c3], .string (K.getD c ByteArray.empty), .agg #[.bool b, .slice q.a1 (yK b K c).length q.c1, .slice q.a2 (yV b V c).length q.c2, .slice q.a3 (yD b D c).length q.c3], .bool true] ∧
    BkR base w p (K.take c) (xV b V c) (xD b D c) ∧ BkR base w q (yK b K c) (yV b V c) (yD b D c))
theorem tail_lens {b : Bool} {K V : List ByteArray} {D : List Int} (h : CanP b K V D) : (b = true → V.length = K.length ∧ D.length = 0) ∧ (b = false → V.length = 0 ∧ D.length = K.length + 1) := by
  cases b with
  | true => exact ⟨fun _ => ⟨(tail_v h.2).2.1, (tail_v h.2).1⟩, (fun e => by cases e)⟩
  | false => exact ⟨(fun e => by cases e), fun _ => ⟨(tail_d h.2).1, (tail_d h.2).2.1⟩⟩
/-- Two pointers to two blocks. -/
def PNe (x y : Value) : Prop := ∃ g g' : Nat, x = .pointer (some ⟨g, 0, none⟩) ∧ y = .pointer (some ⟨g', 0, none⟩) ∧ g ≠ g'
theorem PNe.symm {x y : Value} (h : PNe x y) : PNe y x := by
  obtain ⟨g, g', h1, h2, h3⟩ := h
  exact ⟨g', g, h2, h1, fun e => h3 e.symm⟩
theorem pne_new {base : Nat} {w : World} {x : Value} {cs : Array Value} (h : BoxAt base w x cs) : PNe (.pointer (some ⟨w.heap.size, 0, none⟩)) x := by
  obtain ⟨g, h1, h2, _⟩ := h
  have := (Array.getElem?_eq_some_iff.1 h2).1
  exact ⟨_, g, rfl, h1, by omega⟩
theorem pne_of {g g' : Nat} (h : PNe (.pointer (some ⟨g, 0, none⟩)) (.pointer (some ⟨g', 0, none⟩))) : g ≠ g' := by
  obtain ⟨a, b, h1, h2, h3⟩ := h
  injection h1 with h1
  injection h1 with h1
  injection h1 with h1
  injection h2 with h2
  injection h2 with h2
  injection h2 with h2
  rw [h1, h2]
  exact h3
theorem set4_ne {w : World} {g g' : Nat} {o : Obj} (h : w.heap[g]? = some o) (hn : g ≠ g') (v0 v1 v2 v3 : Value) : (set4 w g' v0 v1 v2 v3).heap[g]? = some o := (set4_far w g' v0 v1 v2 v3 g hn).trans h
theorem takeC {α : Type} {k : Kd α} {w : World} {A : Option Addr} {n m : Nat} {xs : List α} (h : k.C w A n xs) (hm : m ≤ n) : k.C w A m (xs.take m) := by
  have hl : xs.length = n := h.1
  subst hl
  have := Kd.C_take (m := m) h hm
  rwa [show (xs.take m).length = m by rw [List.length_take]; omega] at this
theorem dropC {α : Type} {k : Kd α} {w : World} {A Ap : Option Addr} {n m c : Nat} {xs : List α} (h : k.C w A n xs) (hm : m ≤ n) (hc : n ≤ c) (hs : k.sz = 1) (hA : Ap = if c = m then A else A.map (·.add (m * 1))) : k.C w Ap (n - m) (xs.drop m) := by
  have hl : xs.length = n := h.1
  subst hl
  have := Kd.C_drop (m := m) (c := c) h hm hc
  rw [hs, List.length_drop] at this
  rw [hA]
  exact this
end Go.Proofs.Ytbpnkgaomobpkaa.Mrg
