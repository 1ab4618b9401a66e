/- The function Sub of package text comes to the plain function of the text on characters. -/
import Derived.Test.YtjjdejjhbfcfkaaDoorGivC
namespace Go.Proofs.YtjjdejjhbfcfkaaDoor.Giv
open Go.RowKit
set_option linter.unusedVariables false
set_option linter.unusedSimpArgs false

theorem u64_sub (k : Nat) (f : Int) (h1 : f ≤ (k : Int) + 1) (h0 : -9223372036854775808 ≤ f) (hk : (k : Int) < 9223372036854775807) : IntKind.u64.wrap ((k : Int) + 1 - IntKind.u64.wrap f) = (k : Int) + 1 - f := by
  simp only [IntKind.wrap, IntKind.signed, IntKind.bits]
  simp
  omega
/-- What 'Sub' makes of where its part begins and ends. -/
def cutOf (s : ByteArray) (R : Nat × Nat) : ByteArray := if R.2 < R.1 then ⟨#[]⟩ else s.extract R.1 R.2

set_option maxRecDepth 1000000 in
theorem sub_any (s : ByteArray) (f m : Int) (w : World) (hs : s.size ≤ 9223372036854775807) (hf0 : -9223372036854775808 ≤ f) (hf1 : f ≤ 9223372036854775807) (hm0 : 1 ≤ m) (hm1 : m ≤ 9223372036854775807) :
    Calls Tryd.prog 16 #[.string s, .int .i64 f, .int .i64 m] w fun e w' => e = .returned (.string (cutOf s (subGo s f m 0 s.size 0))) ∧ Below w.heap.size w w' := by
  have hm : decide (m < 1) = false := decide_eq_false (by omega)
  obtain ⟨R, hR⟩ : ∃ R, R = subGo s f m 0 s.size 0 := ⟨_, rfl⟩
  rw [← hR]
  have HR := Lib.hid hR
  clear hR
  obtain ⟨X, hX⟩ : ∃ X, X = cutOf s R := ⟨_, rfl⟩
  rw [← hX]
  have HX := Lib.hid hX
  clear hX
  go_enter Tryd.func16, Tryd.ntmps16
  go_wp2
  go_loopw [7, 8, 9] (fun b en n w' => ∃ (pos k bb : Nat), w'.heap[w.heap.size]? = some (.stringIter s pos) ∧ Below w.heap.size w w' ∧ b = .int .i64 bb ∧ en = .int .i64 s.size ∧ n = .int .i64 k ∧ Hid (subGo s f m k bb pos = R) ∧ k ≤ pos ∧ pos ≤ s.size ∧ bb ≤ s.size) (fun _ _ _ w' => s.size - w'.iterPos w.heap.size)
  case atStart => exact ⟨0, 0, s.size, World.iter_heap w s 0, below_iter _ _ _, rfl, rfl, rfl, HR.out.symm, by omega, by omega, by omega⟩
  case round =>
    obtain ⟨pos, k, bb, hit, hbw, rfl, rfl, rfl, HW, h3, h4, h5⟩ := hrel
    have hpos0 := iterPos_of hit
    by_cases hp : pos < s.size
    · have hw := wd_fits s pos hp
      have hnx : ∀ ty, (Instr.next (.pointer (some ⟨w.heap.size, 0, none⟩)) true ty).run Tryd.prog wr = .ok (.tuple #[.bool true, .int .i64 pos, .int .i32 (Utf8.decode s pos).1]) (wr.iterAt w.heap.size s (pos + wd s pos)) := fun ty => Lib.run_next_any_at wr w.heap.size s pos ty hit hp
      have hit2 := Lib.iterAt_heap wr w.heap.size s pos (pos + wd s pos) hit
      have hbw2 := Lib.below_iterAt hbw (k := w.heap.size) (Nat.le_refl _) s (pos + wd s pos)
      obtain ⟨W1, hW1⟩ : ∃ W1, W1 = wr.iterAt w.heap.size s (pos + wd s pos) := ⟨_, rfl⟩
      rw [← hW1] at hnx hit2 hbw2
      clear hW1
      have hgo := HW.out
      rw [subGo_lt hp] at hgo
      by_cases c1 : f ≤ (k : Int) + 1
      · have c1b : decide (f ≤ (k : Int) + 1) = true := decide_eq_true c1
        have hu := u64_sub k f c1 hf0 (by omega)
        by_cases c2 : m ≤ (k : Int) + 1 - f
        · have c2b : decide (m ≤ IntKind.u64.wrap ((k : Int) + 1 - IntKind.u64.wrap f)) = true := decide_eq_true (by rw [hu]; exact c2)
          clear hu
          rw [if_pos ⟨c1, c2⟩] at hgo
          by_cases c3 : bb = s.size
          · have c3b : ((bb : Int) == (s.size : Int)) = true := beq_iff_eq.2 (by omega)
            rw [if_pos ⟨c1, c3⟩] at hgo
            have hx : ByteArray.empty = X := by rw [HX.out, ← hgo]; unfold cutOf; rw [if_neg (Nat.lt_irrefl _)]; simp
            have HX2 := Lib.hid hx
            clear hgo hx c3
            go_wp2
            go_ret
            exact ⟨ret_str HX2.out, hbw2⟩
          · have c3b : ((bb : Int) == (s.size : Int)) = false := beq_eq_false_iff_ne.2 (by omega)
            rw [if_neg (fun h => c3 h.2)] at hgo
            by_cases c4 : pos < bb
            · have c4b : decide (pos < bb) = true := decide_eq_true c4
              have c4c : decide ((pos : Int) < (bb : Int)) = true := decide_eq_true (by omega)
              have hx : ⟨#[]⟩ = X := by rw [HX.out, ← hgo]; unfold cutOf; rw [if_pos c4]
              have HX2 := Lib.hid hx
              clear hgo hx c3
              go_wp2
              go_ret
              exact ⟨ret_str HX2.out, hbw2⟩
            · have c4b : decide (pos < bb) = false := decide_eq_false c4
              have c4c : decide ((pos : Int) < (bb : Int)) = false := decide_eq_false (by omega)
              have hx : s.extract bb pos = X := by rw [HX.out, ← hgo]; unfold cutOf; rw [if_neg c4]
              have HX2 := Lib.hid hx
              clear hgo hx c3
              go_wp2
              go_ret
              exact ⟨ret_str HX2.out, hbw2⟩
        · have c2b : decide (m ≤ IntKind.u64.wrap ((k : Int) + 1 - IntKind.u64.wrap f)) = false := decide_eq_false (by rw [hu]; exact c2)
          clear hu
          rw [if_neg (fun h => c2 h.2)] at hgo
          by_cases c3 : bb = s.size
          · have c3b : ((bb : Int) == (s.size : Int)) = true := beq_iff_eq.2 (by omega)
            rw [if_pos ⟨c1, c3⟩] at hgo
            have HG := Lib.hid hgo
            clear hgo c3
            go_wp2
            go_roundw
            case rel => exact ⟨pos + wd s pos, k + 1, pos, hit2, hbw2, rfl, rfl, by go_num, HG.out, by omega, by omega, by omega⟩
            case measure => rw [iterPos_of hit2, hpos0]; omega
          · have c3b : ((bb : Int) == (s.size : Int)) = false := beq_eq_false_iff_ne.2 (by omega)
            rw [if_neg (fun h => c3 h.2)] at hgo
            have HG := Lib.hid hgo
            clear hgo c3
            go_wp2
            go_roundw
            case rel => exact ⟨pos + wd s pos, k + 1, bb, hit2, hbw2, rfl, rfl, by go_num, HG.out, by omega, by omega, by omega⟩
            case measure => rw [iterPos_of hit2, hpos0]; omega
      · have c1b : decide (f ≤ (k : Int) + 1) = false := decide_eq_false c1
        rw [if_neg (fun h => c1 h.1), if_neg (fun h => c1 h.1)] at hgo
        have HG := Lib.hid hgo
        clear hgo
        go_wp2
        go_roundw
        case rel => exact ⟨pos + wd s pos, k + 1, bb, hit2, hbw2, rfl, rfl, by go_num, HG.out, by omega, by omega, by omega⟩
        case measure => rw [iterPos_of hit2, hpos0]; omega
    · have hnx : ∀ ty, (Instr.next (.pointer (some ⟨w.heap.size, 0, none⟩)) true ty).run Tryd.prog wr = _ := fun ty => Lib.run_next_end_at wr w.heap.size s pos ty hit hp
      have hx : s.extract bb s.size = X := by
        have := HW.out
        rw [subGo_end hp] at this
        rw [HX.out, ← this]; unfold cutOf; rw [if_neg (by simp; omega)]
      have HX2 := Lib.hid hx
      clear hx
      have c4b : decide (s.size < bb) = false := decide_eq_false (by omega)
      have c4c : decide ((s.size : Int) < (bb : Int)) = false := decide_eq_false (by omega)
      go_wp2
      go_ret
      exact ⟨ret_str HX2.out, hbw⟩

/-- 'Sub' as a whole. -/
def text_Sub.f (s : ByteArray) (f m : Int) : Option ByteArray :=
  if s.size ≤ 9223372036854775807 ∧ -9223372036854775808 ≤ f ∧ f ≤ 9223372036854775807 ∧ m ≤ 9223372036854775807 then some (if m < 1 then ⟨#[]⟩ else cutOf s (subGo s f m 0 s.size 0)) else none

theorem text_Sub.calls (a0 : ByteArray) (a1 a2 : Int) (r : ByteArray) (w : World) (h : text_Sub.f a0 a1 a2 = some r) :
    Calls Tryd.prog 16 #[.string a0, .int .i64 a1, .int .i64 a2] w fun e w' => e = .returned (.string r) ∧ Below w.heap.size w w' := by
  unfold text_Sub.f at h
  split at h
  · rename_i hs
    obtain rfl := Option.some.inj h
    clear h
    by_cases h0 : a2 < 1
    · rw [if_pos h0]
      have hm : decide (a2 < 1) = true := decide_eq_true h0
      go_enter Tryd.func16, Tryd.ntmps16
      go_wp2
      go_ret
      exact ⟨rfl, Below.refl _ _⟩
    · rw [if_neg h0]
      exact sub_any a0 a1 a2 w hs.1 hs.2.1 hs.2.2.1 (by omega) hs.2.2.2
  · cases h

end Go.Proofs.YtjjdejjhbfcfkaaDoor.Giv
