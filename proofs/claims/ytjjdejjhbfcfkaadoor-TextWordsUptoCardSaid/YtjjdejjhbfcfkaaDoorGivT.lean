/- text.Trim is strings.Trim at three blanks, text.Words strings.FieldsFunc: by the shelf's contracts. -/
import Derived.Test.YtjjdejjhbfcfkaaDoorWWords
import Derived.WalkKit
import Derived.Ground.NamesProg
import Derived.Shelf.Lay
import Derived.Shelf.Strings.SlTrimAscii
import Derived.Shelf.Strings.FieldsFuncGrows
import Derived.Shelf.Small.Strs
import Derived.Below
import Derived.Test.YtjjdejjhbfcfkaaDoorProg
namespace Go.Proofs
open Go.Shelf
shelf_lay Lays.n160 Nm 160 at Tryd as Tryd.lays160
shelf_lay Lays.n229 Nm 229 at Tryd as Tryd.lays229
shelf_lay Lays.n137 Nm 137 at Tryd as Tryd.lays137
end Go.Proofs
namespace Go.Proofs.YtjjdejjhbfcfkaaDoor.Giv
open Go.RowKit Go.Shelf Go.Lib Go.Proofs.YtjjdejjhbfcfkaaDoorW.PrintWords
set_option linter.unusedVariables false

set_option maxHeartbeats 1000000 in
theorem trim_any (s : ByteArray) (w : World) (hs : s.size ≤ 9223372036854775807) :
    Calls Tryd.prog 7 #[.string s] w fun e w' => e = .returned (.string ⟨(Lib.trimS s.data.toList [32, 9, 10]).toArray⟩) ∧ Below w.heap.size w w' := by
  have hcon := Any.strings_Trim_laid Tryd.lays160 (by kernel_rfl) s ⟨#[32, 9, 10]⟩ w hs (by decide) (ascii_of_all (by decide))
  change Calls Tryd.prog 14 _ _ (fun e w' => e = .returned (.string ⟨(Lib.trimS s.data.toList [32, 9, 10]).toArray⟩) ∧ Below w.heap.size w w') at hcon
  generalize (⟨(Lib.trimS s.data.toList [32, 9, 10]).toArray⟩ : ByteArray) = r at hcon ⊢
  go_enter Tryd.func7, Tryd.ntmps7
  go_wp2_with (go_at_call 14; refine hcon.mono ?_; rintro e w' ⟨rfl, hB⟩)
  go_ret
  exact ⟨rfl, hB⟩
def text_Trim.f (s : ByteArray) : Option ByteArray := if s.size ≤ 9223372036854775807 then some ⟨(Lib.trimS s.data.toList [32, 9, 10]).toArray⟩ else none
theorem text_Trim.calls (a0 : ByteArray) (r : ByteArray) (w : World) (h : text_Trim.f a0 = some r) :
    Calls Tryd.prog 7 #[.string a0] w fun e w' => e = .returned (.string r) ∧ Below w.heap.size w w' := by
  unfold text_Trim.f at h
  by_cases hs : a0.size ≤ 9223372036854775807
  · rw [if_pos hs] at h
    obtain rfl := Option.some.inj h
    exact trim_any a0 w hs
  · rw [if_neg hs] at h; cases h

/-! ### text.Words -/
/-- A blank, as a rune. -/
def pW (x : Nat) : Bool := decide (x < 128) && decide (0 ≤ Lib.indexByte [32, 9, 10] x.toUInt8)
set_option maxHeartbeats 1000000 in
theorem clos_any (x : Nat) (hx : x ≤ 1114111) (W : World) : Calls Tryd.prog 11 (#[encR x] ++ #[]) W fun e w' => e = .returned (.bool (pW x)) ∧ Below W.heap.size W w' := by
  have hcon : ∀ c : Int, Calls Tryd.prog 12 #[.string ⟨#[32, 9, 10]⟩, .int .u8 c] W fun e w' => e = .returned (.int .i64 (Lib.indexByte [32, 9, 10] c.toNat.toUInt8)) ∧ w' = W := fun c =>
    Any.strings_IndexByte Tryd.lays137 ⟨#[32, 9, 10]⟩ c W
  show Calls Tryd.prog 11 #[.int .i32 (x : Int)] W _
  by_cases h : (x : Int) < 128
  · have hp : pW x = decide (0 ≤ Lib.indexByte [32, 9, 10] x.toUInt8) := by unfold pW; rw [decide_eq_true (by omega), Bool.true_and]
    rw [hp]
    clear hp
    have h2 : ((x : Int) % 256) = (x : Int) := by omega
    have hc := hcon (x : Int)
    rw [Int.toNat_natCast] at hc
    generalize Lib.indexByte [32, 9, 10] x.toUInt8 = r at hc ⊢
    go_enter Tryd.func11, Tryd.ntmps11
    go_wp2_with (go_at_call 12; refine hc.mono ?_; rintro e w' ⟨rfl, rfl⟩)
    go_ret
    exact ⟨rfl, Below.refl _ _⟩
  · have hp : pW x = false := by unfold pW; rw [decide_eq_false (by omega), Bool.false_and]
    rw [hp]
    clear hp hcon
    go_enter Tryd.func11, Tryd.ntmps11
    go_wp2
    go_ret
    exact ⟨rfl, Below.refl _ _⟩
def text_Words.f (s : ByteArray) : Option (List ByteArray) := if s.size ≤ 4294967296 then some (Lib.goFieldsP pW s) else none
theorem text_Words.calls (a0 : ByteArray) (r : List ByteArray) (w : World) (h : text_Words.f a0 = some r) :
    Calls Tryd.prog 5 #[.string a0] w fun e w' => ∃ v0_ : Value, e = .returned v0_ ∧ Kd.R Kd.string 9 w' w.heap.size (fun _ => True) v0_ r ∧ Below w.heap.size w w' := by
  unfold text_Words.f at h
  by_cases hs : a0.size ≤ 4294967296
  · rw [if_pos hs] at h
    obtain rfl := Option.some.inj h
    have hcon := Any.strings_FieldsFunc_grows Tryd.lays229 11 #[] (by intro args w; kernel_rfl) pW a0 w hs (fun W x hx _ => clos_any x hx W) (by kernel_rfl) (by kernel_rfl)
    change Calls Tryd.prog 10 #[.string a0, .func (.func 11) #[] #[]] w (fun e w' => ∃ A, e = .returned (.slice (some ⟨A, 0, none⟩) (Lib.goFieldsP pW a0).length (Lib.goFieldsP pW a0).length) ∧ w.heap.size ≤ A ∧
      w'.ownsRow w.heap.size 9 1 (.slice (some ⟨A, 0, none⟩) (Lib.goFieldsP pW a0).length (Lib.goFieldsP pW a0).length) (Lib.goFieldsP pW a0).length ((Lib.goFieldsP pW a0).map Value.string) ∧ Below w.heap.size w w') at hcon
    generalize Lib.goFieldsP pW a0 = l at hcon ⊢
    go_enter Tryd.func5, Tryd.ntmps5
    go_wp2_with (go_at_call 10; refine hcon.mono ?_; rintro e w' ⟨A, rfl, hA, ho, hB⟩)
    go_ret
    exact ⟨_, rfl, Kd.R_of_own (h1 := fun _ => rfl) ho (fun _ _ => trivial), hB⟩
  · rw [if_neg hs] at h; cases h
end Go.Proofs.YtjjdejjhbfcfkaaDoor.Giv
