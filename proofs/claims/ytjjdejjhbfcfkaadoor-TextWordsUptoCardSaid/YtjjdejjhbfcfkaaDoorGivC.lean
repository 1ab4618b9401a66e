/- The functions Index and Sub of package text come to the plain functions of the text on characters. -/
import Derived.Test.YtjjdejjhbfcfkaaDoorGivB
namespace Go.Proofs.YtjjdejjhbfcfkaaDoor.Giv
open Go.RowKit
set_option linter.unusedVariables false
set_option linter.unusedSimpArgs false

/-! ### Index -/
set_option maxRecDepth 1000000 in
theorem index_any (s t : ByteArray) (w : World) (hs : s.size ≤ 9223372036854775807) (ht : t.size ≤ 9223372036854775807) (h0 : 0 < t.size) :
    Calls Tryd.prog 17 #[.string s, .string t] w fun e w' => e = .returned (.int .i64 (indexGo s t 0 0 : Int)) ∧ Below w.heap.size w w' := by
  have hemp : t.toList.isEmpty = false := by
    rw [ByteArray.toList_eq]
    cases h : t.data.toList with
    | nil =>
      have h2 : t.data.toList.length = t.size := Array.length_toList
      rw [h] at h2
      simp at h2; omega
    | cons a l => rfl
  go_enter Tryd.func17, Tryd.ntmps17
  go_wp2
  go_loopw [5] (fun n w' => ∃ (pos k : Nat), w'.heap[w.heap.size]? = some (.stringIter s pos) ∧ Below w.heap.size w w' ∧ n = .int .i64 k ∧ Hid (indexGo s t k pos = indexGo s t 0 0) ∧ k ≤ pos ∧ pos ≤ s.size) (fun _ w' => s.size - w'.iterPos w.heap.size)
  case atStart => exact ⟨0, 0, World.iter_heap w s 0, below_iter _ _ _, rfl, rfl, by omega, by omega⟩
  case round =>
    obtain ⟨pos, k, hit, hbw, rfl, HW, h3, h4⟩ := hrel
    have hpos0 := iterPos_of hit
    by_cases hp : pos < s.size
    · have hw := wd_fits s pos hp
      have hnx : ∀ ty, (Instr.next (.pointer (some ⟨w.heap.size, 0, none⟩)) true ty).run Tryd.prog wr = .ok (.tuple #[.bool true, .int .i64 pos, .int .i32 (Utf8.decode s pos).1]) (wr.iterAt w.heap.size s (pos + wd s pos)) := fun ty => Lib.run_next_any_at wr w.heap.size s pos ty hit hp
      have hsz : (s.extract pos s.size).size = s.size - pos := Lib.tail_size s pos
      have HPR := Lib.hid (fun w2 => pref_top (s.extract pos s.size) t w2 (by omega) ht)
      have HWH := Lib.hid (fun w2 => whole_any (s.extract pos s.size) t w2 (by omega) ht)
      have hit2 := Lib.iterAt_heap wr w.heap.size s pos (pos + wd s pos) hit
      have hbw2 := Lib.below_iterAt hbw (k := w.heap.size) (Nat.le_refl _) s (pos + wd s pos)
      have hBlt := lt_of_block hit2
      obtain ⟨W1, hW1⟩ : ∃ W1, W1 = wr.iterAt w.heap.size s (pos + wd s pos) := ⟨_, rfl⟩
      rw [← hW1] at hnx hit2 hbw2 hBlt
      clear hW1 hsz
      have hgo := HW.out
      rw [indexGo_lt hp] at hgo
      cases hpr : pref (s.extract pos s.size) t with
      | false =>
        rw [hpr, Bool.false_and, if_neg (by simp)] at hgo
        rw [hpr] at HPR
        have HG := Lib.hid hgo
        clear hgo hpr
        go_wp2_with (go_at_call 27; refine (HPR.out _).mono ?_; rintro e w4 ⟨rfl, rfl⟩)
        go_roundw
        case rel => exact ⟨pos + wd s pos, k + 1, hit2, hbw2, by go_num, HG.out, by omega, by omega⟩
        case measure => rw [iterPos_of hit2, hpos0]; omega
      | true =>
        rw [hpr, Bool.true_and] at hgo
        rw [hpr] at HPR
        clear hpr
        cases hwh : whole (s.extract pos s.size) t with
        | false =>
          rw [hwh, if_neg (by simp)] at hgo
          rw [hwh] at HWH
          have HG := Lib.hid hgo
          clear hgo hwh
          go_wp2_with (first | (go_at_call 27; refine (HPR.out _).mono ?_; rintro e w4 ⟨rfl, rfl⟩) | (go_at_call 28; refine (HWH.out _).mono ?_; rintro e w4 ⟨rfl, hb4⟩))
          have hit4 : w4.heap[w.heap.size]? = some (.stringIter s (pos + wd s pos)) := (hb4.block _ hBlt).trans hit2
          go_roundw
          case rel => exact ⟨pos + wd s pos, k + 1, hit4, hbw2.trans (hb4.mono hbw2.size), by go_num, HG.out, by omega, by omega⟩
          case measure => rw [iterPos_of hit4, hpos0]; omega
        | true =>
          rw [hwh, if_pos rfl] at hgo
          rw [hwh] at HWH
          have hr2 : ((k : Int) + 1) = (indexGo s t 0 0 : Int) := by omega
          have HR2 := Lib.hid hr2
          clear hgo hwh hr2
          go_wp2_with (first | (go_at_call 27; refine (HPR.out _).mono ?_; rintro e w4 ⟨rfl, rfl⟩) | (go_at_call 28; refine (HWH.out _).mono ?_; rintro e w4 ⟨rfl, hb4⟩))
          go_ret
          exact ⟨ret_int HR2.out, hbw2.trans (hb4.mono hbw2.size)⟩
    · have hnx : ∀ ty, (Instr.next (.pointer (some ⟨w.heap.size, 0, none⟩)) true ty).run Tryd.prog wr = _ := fun ty => Lib.run_next_end_at wr w.heap.size s pos ty hit hp
      have hr2 : (0 : Int) = (indexGo s t 0 0 : Int) := by have := HW.out; rw [indexGo_end hp] at this; omega
      have HR2 := Lib.hid hr2
      clear hr2
      go_wp2
      go_ret
      exact ⟨ret_int HR2.out, hbw⟩

/-- 'Index' as a whole. -/
def text_Index.f (s t : ByteArray) : Option Int :=
  if s.size ≤ 9223372036854775807 ∧ t.size ≤ 9223372036854775807 then some (if t.size = 0 then 1 else (indexGo s t 0 0 : Int)) else none

theorem empty_of_size {t : ByteArray} (h : t.size = 0) : t.toList.isEmpty = true := by
  rw [ByteArray.toList_eq]
  have h2 : t.data.toList.length = t.size := Array.length_toList
  cases h3 : t.data.toList with
  | nil => rfl
  | cons a l => rw [h3] at h2; simp at h2; omega

theorem text_Index.calls (a0 a1 : ByteArray) (r : Int) (w : World) (h : text_Index.f a0 a1 = some r) :
    Calls Tryd.prog 17 #[.string a0, .string a1] w fun e w' => e = .returned (.int .i64 r) ∧ Below w.heap.size w w' := by
  unfold text_Index.f at h
  split at h
  · rename_i hs
    obtain rfl := Option.some.inj h
    by_cases h0 : a1.size = 0
    · rw [if_pos h0]
      have hemp := empty_of_size h0
      clear h h0
      go_enter Tryd.func17, Tryd.ntmps17
      go_wp2
      go_ret
      exact ⟨rfl, Below.refl _ _⟩
    · rw [if_neg h0]
      exact index_any a0 a1 w hs.1 hs.2 (by omega)
  · cases h

end Go.Proofs.YtjjdejjhbfcfkaaDoor.Giv
