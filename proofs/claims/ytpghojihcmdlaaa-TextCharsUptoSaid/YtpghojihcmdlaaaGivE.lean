/- The function Chars of package text comes to the list of a text's characters. -/
import Derived.Test.YtpghojihcmdlaaaGivC
import Derived.Test.YtpghojihcmdlaaaWWords
namespace Go.Proofs.Ytpghojihcmdlaaa.Giv
open Go.RowKit Go.Proofs.YtpghojihcmdlaaaW.PrintWords
set_option linter.unusedVariables false
set_option linter.unusedSimpArgs false

theorem info9 : (Try.prog.info? 9).map (fun i => (i.zero, i.size, i.bytes)) = some (some (.string ⟨#[]⟩), 1, 16) := by kernel_rfl

set_option maxRecDepth 1000000 in
theorem chars_any (s : ByteArray) (w : World) (hs : s.size * 16 ≤ 140737488351232) (h0 : 0 < s.size) :
    Calls Try.prog 20 #[.string s] w fun e w' => ∃ v : Value, e = .returned v ∧ w'.ownsRow (w.heap.size + 1) 9 1 v (cf s 0).length ((cf s 0).map Value.string) ∧ Below w.heap.size w w' := by
  have hemp : s.toList.isEmpty = false := by
    rw [ByteArray.toList_eq]
    cases h : s.data.toList with
    | nil =>
      have h2 : s.data.toList.length = s.size := Array.length_toList
      rw [h] at h2
      simp at h2; omega
    | cons a l => rfl
  obtain ⟨i0, hi, hz0, hz1, hz2⟩ := info_parts info9
  obtain ⟨R, hR⟩ : ∃ R, R = cf s 0 := ⟨_, rfl⟩
  rw [← hR]
  have HR := Lib.hid hR
  clear hR
  go_enter Try.func20, Try.ntmps20
  go_wp2
  go_loopw [3, 4] (fun v l wr => ∃ (pos last : Nat) (acc : List ByteArray), wr.heap[w.heap.size]? = some (.stringIter s pos) ∧ wr.ownsRow (w.heap.size + 1) 9 1 v acc.length (acc.map Value.string) ∧ Below w.heap.size w wr ∧ l = .int .i64 last ∧ Hid (acc ++ cf s last = R) ∧
      Hid (pos = 0 ∧ last = 0 ∨ 0 < pos ∧ pos = last + wd s last) ∧ pos ≤ s.size ∧ acc.length ≤ last ∧ last < s.size ∧ last ≤ pos) (fun _ _ wr => s.size - wr.iterPos w.heap.size)
  case atStart => exact ⟨0, 0, [], World.iter_heap w s 0, World.ownsRow_nil _ _ _ _, below_iter _ _ _, rfl, HR.out.symm, .inl ⟨rfl, rfl⟩, by omega, by simp, h0, by omega⟩
  case round =>
    obtain ⟨pos, last, acc, hit, hown, hbw, rfl, HC, HP, h4, h5, h6, h7⟩ := hrel
    have hpos0 := iterPos_of hit
    by_cases hp : pos < s.size
    · have hw := wd_fits s pos hp
      have hnx : ∀ ty, (Instr.next (.pointer (some ⟨w.heap.size, 0, none⟩)) true ty).run Try.prog wr = .ok (.tuple #[.bool true, .int .i64 pos, .int .i32 (Utf8.decode s pos).1]) (wr.iterAt w.heap.size s (pos + wd s pos)) := fun ty => Lib.run_next_any_at wr w.heap.size s pos ty hit hp
      have hit2 := Lib.iterAt_heap wr w.heap.size s pos (pos + wd s pos) hit
      have hbw2 := Lib.below_iterAt hbw (k := w.heap.size) (Nat.le_refl _) s (pos + wd s pos)
      have hown2 := ownsRow_iterAt hown (k := w.heap.size) (by omega) s (pos + wd s pos)
      obtain ⟨W1, hW1⟩ : ∃ W1, W1 = wr.iterAt w.heap.size s (pos + wd s pos) := ⟨_, rfl⟩
      rw [← hW1] at hnx hit2 hbw2 hown2
      have hBlt := lt_of_block hit2
      clear hW1 hit hown hbw
      by_cases c : pos = 0
      · subst c
        have hl : last = 0 := by rcases HP.out with h | h <;> omega
        subst hl
        go_wp2
        go_roundw
        case rel => exact ⟨0 + wd s 0, 0, acc, hit2, hown2, hbw2, rfl, HC, .inr ⟨by omega, rfl⟩, by omega, by omega, by omega, by omega⟩
        case measure => rw [iterPos_of hit2, hpos0]; omega
      · have hl : pos = last + wd s last := by rcases HP.out with h | h <;> omega
        have HL := Lib.hid hl
        have hlt : last < pos := by have := wd_fits s last h6; omega
        have c2 : decide ((0 : Int) < (pos : Int)) = true := decide_eq_true (by omega)
        have c3 : 0 < pos := by omega
        clear hl c
        go_wp2_with
          (at_builtin; refine wpList_append_own _ rfl _ _ 31 rfl (w.heap.size + 1) 9 i0 (.string ⟨#[]⟩) 1 16 Try.underlying31 hi hz0 hz1 hz2 rfl (by decide) _ _ _ rfl (hown2.alloc _) ⟨W1.heap.size, 0, none⟩ 1 1 [.string (s.extract last pos)] rfl rfl (cell_one_new _ _ _) (fun x hx => by simp at hx; subst hx; rfl) (by unfold maxLen; omega) (by omega) (by simp; omega) ?_; intro v' w3 hown' hgrow3 hnil3
           have hit3 : w3.heap[w.heap.size]? = some (.stringIter s (pos + wd s pos)) := by
             rw [hgrow3.block w.heap.size (by simp; omega) (fun h => by have := (hown2.lt _ h.symm).1; omega), Below.heap_alloc _ _ _ hBlt]; exact hit2
           have hbw3 : Below w.heap.size w w3 := Below.grown (hbw2.alloc (by omega) _) hgrow3 (by simp; omega) (fun j hj => by have := (hown2.lt _ hj).1; omega)
           have X : Aside (w3.ownsRow (w.heap.size + 1) 9 1 v' (acc ++ [s.extract last pos]).length ((acc ++ [s.extract last pos]).map Value.string) ∧ w3.heap[w.heap.size]? = some (.stringIter s (pos + wd s pos)) ∧ Below w.heap.size w w3) := ⟨by rw [List.length_append, List.map_append]; exact hown', hit3, hbw3⟩
           clear hown' hgrow3 hnil3 hit3 hbw3)
        go_roundw
        case rel =>
          refine ⟨pos + wd s pos, pos, acc ++ [s.extract last pos], X.out.2.1, X.out.1, X.out.2.2, rfl, ?_, .inr ⟨by omega, rfl⟩, by omega, by simp; omega, hp, by omega⟩
          show _ = _
          rw [← HC.out, cf_lt h6, ← HL.out]
          simp
        case measure => rw [iterPos_of X.out.2.1, hpos0]; omega
    · have hnx : ∀ ty, (Instr.next (.pointer (some ⟨w.heap.size, 0, none⟩)) true ty).run Try.prog wr = _ := fun ty => Lib.run_next_end_at wr w.heap.size s pos ty hit hp
      have hl : pos = last + wd s last := by rcases HP.out with h | h <;> omega
      have hfin : acc ++ [s.extract last s.size] = R := by
        rw [← HC.out, cf_lt h6, cf_end (p := last + wd s last) (by omega)]
        have : last + wd s last = s.size := by omega
        rw [this]
      have HF := Lib.hid hfin
      have hBlt := lt_of_block hit
      clear hl hfin
      go_wp2_with
        (at_builtin; refine wpList_append_own _ rfl _ _ 31 rfl (w.heap.size + 1) 9 i0 (.string ⟨#[]⟩) 1 16 Try.underlying31 hi hz0 hz1 hz2 rfl (by decide) _ _ _ rfl (hown.alloc _) ⟨wr.heap.size, 0, none⟩ 1 1 [.string (s.extract last s.size)] rfl rfl (cell_one_new _ _ _) (fun x hx => by simp at hx; subst hx; rfl) (by unfold maxLen; omega) (by omega) (by simp; omega) ?_; intro v' w3 hown' hgrow3 hnil3
         have hbw3 : Below w.heap.size w w3 := Below.grown (hbw.alloc (by omega) _) hgrow3 (by simp; omega) (fun j hj => by have := (hown.lt _ hj).1; omega)
         have X : Aside (w3.ownsRow (w.heap.size + 1) 9 1 v' (acc ++ [s.extract last s.size]).length ((acc ++ [s.extract last s.size]).map Value.string) ∧ Below w.heap.size w w3) := ⟨by rw [List.length_append, List.map_append]; exact hown', hbw3⟩
         clear hown' hgrow3 hnil3 hbw3)
      go_ret
      exact ⟨_, rfl, by rw [← HF.out]; exact X.out.1, X.out.2⟩

/-- 'Chars' as a whole. -/
def text_Chars.f (s : ByteArray) : Option (List ByteArray) := if s.size * 16 ≤ 140737488351232 then some (cf s 0) else none

theorem text_Chars.calls (a0 : ByteArray) (r : List ByteArray) (w : World) (h : text_Chars.f a0 = some r) :
    Calls Try.prog 20 #[.string a0] w fun e w' => ∃ v0_ : Value, e = .returned v0_ ∧ Kd.R Kd.string 9 w' w.heap.size (fun _ => True) v0_ r ∧ Below w.heap.size w w' := by
  unfold text_Chars.f at h
  split at h
  · rename_i hs
    obtain rfl := Option.some.inj h
    clear h
    by_cases h0 : a0.size = 0
    · have hemp := empty_of_size h0
      have hnx : ∀ ty, (Instr.next (.pointer (some ⟨w.heap.size, 0, none⟩)) true ty).run Try.prog (w.iter a0 0) = _ := fun ty => run_next_end w a0 0 ty (by omega)
      have hc : cf a0 0 = [] := cf_end (by omega)
      rw [hc]
      clear hc h0
      go_enter Try.func20, Try.ntmps20
      go_wp2
      refine wp_loop_rounds 1 ?_
      rw [rounds_succ]
      go_wp2
      go_ret
      exact ⟨_, rfl, Kd.R_nil _ _ _ _ _, below_iter _ _ _⟩
    · refine (chars_any a0 w hs (by omega)).mono fun e w' h => ?_
      obtain ⟨v, he, ho, hb⟩ := h
      exact ⟨v, he, Kd.R_of_own (own_weaken ho (by omega)) (fun _ _ => trivial), hb⟩
  · cases h

end Go.Proofs.Ytpghojihcmdlaaa.Giv
