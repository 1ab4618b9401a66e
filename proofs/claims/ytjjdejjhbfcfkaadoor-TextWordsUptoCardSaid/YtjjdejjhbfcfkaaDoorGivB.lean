/- The functions size, whole, Sub of package text, and strings.HasPrefix, strings.Compare, come to the plain functions of the text on characters. -/
import Derived.Test.YtjjdejjhbfcfkaaDoorGivA
namespace Go.Proofs.YtjjdejjhbfcfkaaDoor.Giv
open Go.RowKit
set_option linter.unusedVariables false
set_option linter.unusedSimpArgs false

/-! ### size -/
set_option maxRecDepth 1000000 in
theorem size_any (s : ByteArray) (r : Int) (w : World) (hs : s.size ≤ 9223372036854775807) (h0 : 0 < s.size) :
    Calls Tryd.prog 35 #[.string s, .int .i32 r] w fun e w' => e = .returned (.int .i64 (wd s 0 : Int)) ∧ Below w.heap.size w w' := by
  have hw := wd_fits s 0 h0
  have hnx0 : ∀ ty, (Instr.next (.pointer (some ⟨w.heap.size, 0, none⟩)) true ty).run Tryd.prog (w.iter s 0) = .ok (.tuple #[.bool true, .int .i64 ((0 : Nat) : Int), .int .i32 (Utf8.decode s 0).1]) (w.iter s (wd s 0)) := fun ty => by
    have := run_next_any (P := Tryd.prog) w s 0 ty h0
    rw [Nat.zero_add] at this
    exact this
  by_cases hp : wd s 0 < s.size
  · have hnx : ∀ ty, (Instr.next (.pointer (some ⟨w.heap.size, 0, none⟩)) true ty).run Tryd.prog (w.iter s (wd s 0)) = _ := fun ty => run_next_any w s (wd s 0) ty hp
    have hg : decide ((0 : Int) < (wd s 0 : Int)) = true := decide_eq_true (by omega)
    go_enter Tryd.func35, Tryd.ntmps35
    go_wp2
    refine wp_loop_rounds 2 ?_
    rw [rounds_succ]
    go_wp2
    rw [rounds_succ]
    go_wp2
    go_ret
    exact ⟨rfl, below_iter _ _ _⟩
  · have hnx : ∀ ty, (Instr.next (.pointer (some ⟨w.heap.size, 0, none⟩)) true ty).run Tryd.prog (w.iter s (wd s 0)) = _ := fun ty => run_next_end w s (wd s 0) ty hp
    have he : (s.size : Int) = (wd s 0 : Int) := by omega
    have HE := Lib.hid he
    clear he
    go_enter Tryd.func35, Tryd.ntmps35
    go_wp2
    refine wp_loop_rounds 2 ?_
    rw [rounds_succ]
    go_wp2
    rw [rounds_succ]
    go_wp2
    go_ret
    exact ⟨ret_int HE.out, below_iter _ _ _⟩

/-! ### strings.HasPrefix -/
theorem pref_any (s t : ByteArray) (w : World) (hs : s.size ≤ 9223372036854775807) (ht : t.size ≤ 9223372036854775807) :
    Calls Tryd.prog 34 #[.string s, .string t] w fun e w' => e = .returned (.bool (pref s t)) ∧ w = w' := by
  by_cases h : t.size ≤ s.size
  · have hb : decide (t.size ≤ s.size) = true := decide_eq_true h
    have hp : pref s t = ((s.extract 0 t.size).toList == t.toList) := by unfold pref; rw [hb, Bool.true_and]
    have HP := Lib.hid hp
    clear hp
    go_enter Tryd.func34, Tryd.ntmps34
    go_wp2
    go_ret
    exact ⟨ret_bool HP.out.symm, rfl⟩
  · have hb : decide (t.size ≤ s.size) = false := decide_eq_false h
    have hp : pref s t = false := by unfold pref; rw [hb, Bool.false_and]
    have HP := Lib.hid hp
    clear hp
    go_enter Tryd.func34, Tryd.ntmps34
    go_wp2
    go_ret
    exact ⟨ret_bool HP.out.symm, rfl⟩

theorem pref_top (s t : ByteArray) (w : World) (hs : s.size ≤ 9223372036854775807) (ht : t.size ≤ 9223372036854775807) :
    Calls Tryd.prog 27 #[.string s, .string t] w fun e w' => e = .returned (.bool (pref s t)) ∧ w = w' := by
  go_enter Tryd.func27, Tryd.ntmps27
  go_wp2_with (go_at_call 34; refine (pref_any s t _ hs ht).mono ?_; rintro e w' ⟨rfl, rfl⟩)
  go_ret
  exact ⟨rfl, rfl⟩

/-! ### whole -/
set_option maxRecDepth 1000000 in
theorem whole_any (s t : ByteArray) (w : World) (hs : s.size ≤ 9223372036854775807) (ht : t.size ≤ 9223372036854775807) :
    Calls Tryd.prog 28 #[.string s, .string t] w fun e w' => e = .returned (.bool (whole s t)) ∧ Below w.heap.size w w' := by
  by_cases h : s.size = t.size
  · have hb : (s.size == t.size) = true := beq_iff_eq.2 h
    have hb2 : ((s.size : Int) == (t.size : Int)) = true := beq_iff_eq.2 (by omega)
    have hr : whole s t = true := by unfold whole; rw [hb, Bool.true_or]
    have HR := Lib.hid hr
    clear hr h
    go_enter Tryd.func28, Tryd.ntmps28
    go_wp2
    go_ret
    exact ⟨ret_bool HR.out.symm, Below.refl _ _⟩
  · have hb : (s.size == t.size) = false := beq_eq_false_iff_ne.2 h
    have hb2 : ((s.size : Int) == (t.size : Int)) = false := beq_eq_false_iff_ne.2 (by omega)
    have hr : whole s t = wholeGo s t 0 := by unfold whole; rw [hb, Bool.false_or]
    have HR := Lib.hid hr
    clear hr h
    go_enter Tryd.func28, Tryd.ntmps28
    go_wp2
    go_loopw [] (fun w' => ∃ (pos : Nat), w'.heap[w.heap.size]? = some (.stringIter s pos) ∧ Below w.heap.size w w' ∧ Hid (wholeGo s t pos = wholeGo s t 0) ∧ pos ≤ s.size) (fun w' => s.size - w'.iterPos w.heap.size)
    case atStart => exact ⟨0, World.iter_heap w s 0, below_iter _ _ _, rfl, by omega⟩
    case round =>
      obtain ⟨pos, hit, hbw, HW, h4⟩ := hrel
      have hpos0 := iterPos_of hit
      by_cases hp : pos < s.size
      · have hw := wd_fits s pos hp
        have hnx : ∀ ty, (Instr.next (.pointer (some ⟨w.heap.size, 0, none⟩)) true ty).run Tryd.prog wr = .ok (.tuple #[.bool true, .int .i64 pos, .int .i32 (Utf8.decode s pos).1]) (wr.iterAt w.heap.size s (pos + wd s pos)) := fun ty => Lib.run_next_any_at wr w.heap.size s pos ty hit hp
        have hsz : (s.extract pos s.size).size = s.size - pos := Lib.tail_size s pos
        have hsc : ∀ w2, Calls Tryd.prog 35 #[.string (s.extract pos s.size), .int .i32 ((Utf8.decode s pos).1 : Int)] w2 fun e w' => e = .returned (.int .i64 (wd s pos : Int)) ∧ Below w2.heap.size w2 w' := fun w2 => by
          have := size_any (s.extract pos s.size) ((Utf8.decode s pos).1 : Int) w2 (by omega) (by omega)
          rw [wd_tail, Nat.add_zero] at this
          exact this
        have HSC := Lib.hid hsc
        have hit2 := Lib.iterAt_heap wr w.heap.size s pos (pos + wd s pos) hit
        have hbw2 := Lib.below_iterAt hbw (k := w.heap.size) (Nat.le_refl _) s (pos + wd s pos)
        have hBlt := lt_of_block hit2
        obtain ⟨W1, hW1⟩ : ∃ W1, W1 = wr.iterAt w.heap.size s (pos + wd s pos) := ⟨_, rfl⟩
        rw [← hW1] at hnx hit2 hbw2 hBlt
        clear hW1 hsc hsz
        have hgo := HW.out
        rw [wholeGo_lt hp] at hgo
        by_cases c1 : t.size ≤ pos
        · rw [if_pos c1] at hgo
          have c1b : decide ((t.size : Int) ≤ (pos : Int)) = true := decide_eq_true (by omega)
          have c1c : decide (t.size ≤ pos) = true := decide_eq_true c1
          have hr2 : ((pos : Int) == (t.size : Int)) = whole s t := by rw [HR.out, ← hgo, Bool.eq_iff_iff]; simp; omega
          have HR2 := Lib.hid hr2
          clear hgo hr2
          go_wp2
          go_ret
          exact ⟨ret_bool HR2.out, hbw2⟩
        · rw [if_neg c1] at hgo
          have c1b : decide ((t.size : Int) ≤ (pos : Int)) = false := decide_eq_false (by omega)
          have c1c : decide (t.size ≤ pos) = false := decide_eq_false c1
          by_cases c2 : t.size < pos + wd s pos
          · rw [if_pos c2] at hgo
            have c2b : decide ((t.size : Int) < (pos : Int) + (wd s pos : Int)) = true := decide_eq_true (by omega)
            have hr2 : false = whole s t := by rw [HR.out, ← hgo]
            have HR2 := Lib.hid hr2
            clear hgo hr2
            go_wp2_with (go_at_call 35; refine (HSC.out _).mono ?_; rintro e w4 ⟨rfl, hb4⟩)
            go_ret
            exact ⟨ret_bool HR2.out, hbw2.trans (hb4.mono hbw2.size)⟩
          · rw [if_neg c2] at hgo
            have c2b : decide ((t.size : Int) < (pos : Int) + (wd s pos : Int)) = false := decide_eq_false (by omega)
            have HG := Lib.hid hgo
            clear hgo
            go_wp2_with (go_at_call 35; refine (HSC.out _).mono ?_; rintro e w4 ⟨rfl, hb4⟩)
            have hit4 : w4.heap[w.heap.size]? = some (.stringIter s (pos + wd s pos)) := (hb4.block _ hBlt).trans hit2
            go_roundw
            case rel => exact ⟨pos + wd s pos, hit4, hbw2.trans (hb4.mono hbw2.size), HG.out, by omega⟩
            case measure => rw [iterPos_of hit4, hpos0]; omega
      · have hnx : ∀ ty, (Instr.next (.pointer (some ⟨w.heap.size, 0, none⟩)) true ty).run Tryd.prog wr = _ := fun ty => Lib.run_next_end_at wr w.heap.size s pos ty hit hp
        have hr2 : true = whole s t := by rw [HR.out, ← HW.out, wholeGo_end hp]
        have HR2 := Lib.hid hr2
        clear hr2
        go_wp2
        go_ret
        exact ⟨ret_bool HR2.out, hbw⟩

end Go.Proofs.YtjjdejjhbfcfkaaDoor.Giv
