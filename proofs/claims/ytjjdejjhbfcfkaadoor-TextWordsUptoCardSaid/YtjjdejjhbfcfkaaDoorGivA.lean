/- The functions of package text that go through a text's characters come to the plain functions of the text before: Len's count, Sub, size, whole. -/
import Derived.Test.YtjjdejjhbfcfkaaDoorProg
import Derived.Test.YtjjdejjhbfcfkaaDoorChars
import Derived.WalkKit
import Derived.KernelRfl
import Derived.WalkLawsBesides
import Derived.WalkSpells
import Derived.Lib.Hide
import Derived.Lib.OthersKept
namespace Go.Proofs.YtjjdejjhbfcfkaaDoor.Giv
open Go.RowKit
set_option linter.unusedVariables false
set_option linter.unusedSimpArgs false

theorem below_iter (w : World) (s : ByteArray) (p : Nat) : Below w.heap.size w (w.iter s p) := (Below.refl _ _).alloc (Nat.le_refl _) _
theorem ret_int {k : IntKind} {a b : Int} (h : a = b) : Ending.returned (.int k a) = .returned (.int k b) := by rw [h]
theorem ret_str {a b : ByteArray} (h : a = b) : Ending.returned (.string a) = .returned (.string b) := by rw [h]
theorem ret_bool {a b : Bool} (h : a = b) : Ending.returned (.bool a) = .returned (.bool b) := by rw [h]

def text_count.f (s : ByteArray) : Option Int := if s.size ≤ 9223372036854775807 then some ((cf s 0).length : Int) else none

set_option maxRecDepth 1000000 in
theorem count_any (s : ByteArray) (w : World) (hs : s.size ≤ 9223372036854775807) :
    Calls Tryd.prog 26 #[.string s] w fun e w' => e = .returned (.int .i64 ((cf s 0).length : Int)) ∧ Below w.heap.size w w' := by
  go_enter Tryd.func26, Tryd.ntmps26
  go_wp2
  go_loopw [3] (fun n w' => ∃ (pos k : Nat), w' = w.iter s pos ∧ n = .int .i64 k ∧ k + (cf s pos).length ≤ (cf s 0).length ∧ (cf s 0).length ≤ k + (cf s pos).length ∧ k ≤ pos ∧ pos ≤ s.size) (fun _ w' => s.size - w'.iterPos w.heap.size)
  case atStart => exact ⟨0, 0, rfl, rfl, by omega, by omega, by omega, by omega⟩
  case round =>
    obtain ⟨pos, k, rfl, rfl, h1, h2, h3, h4⟩ := hrel
    by_cases hp : pos < s.size
    · have hnx : ∀ ty, (Instr.next (.pointer (some ⟨w.heap.size, 0, none⟩)) true ty).run Tryd.prog (w.iter s pos) = _ := fun ty => run_next_any w s pos ty hp
      go_wp2
      have hw : 1 ≤ (Utf8.decode s pos).2 ∧ pos + (Utf8.decode s pos).2 ≤ s.size := wd_fits s pos hp
      have hc : (cf s pos).length = (cf s (pos + (Utf8.decode s pos).2)).length + 1 := by rw [cf_lt hp]; rfl
      go_roundw
      case rel => exact ⟨pos + (Utf8.decode s pos).2, k + 1, rfl, by go_num, by omega, by omega, by omega, by omega⟩
      case measure =>
        simp
        omega
    · have hnx : ∀ ty, (Instr.next (.pointer (some ⟨w.heap.size, 0, none⟩)) true ty).run Tryd.prog (w.iter s pos) = _ := fun ty => run_next_end w s pos ty hp
      have hc : (cf s pos).length = 0 := by rw [cf_end hp]; rfl
      have hk : (k : Int) = ((cf s 0).length : Int) := by omega
      have HK := Lib.hid hk
      clear hk h1 h2 hc
      go_wp2
      go_ret
      exact ⟨ret_int HK.out, below_iter _ _ _⟩

theorem text_count.calls (a0 : ByteArray) (r : Int) (w : World) (h : text_count.f a0 = some r) :
    Calls Tryd.prog 26 #[.string a0] w fun e w' => e = .returned (.int .i64 r) ∧ Below w.heap.size w w' := by
  unfold text_count.f at h
  split at h
  · cases h
    exact count_any a0 w ‹_›
  · cases h

end Go.Proofs.YtjjdejjhbfcfkaaDoor.Giv
