/- The text of an act, walked by hand: some text that is not too long. -/
import Derived.Test.YtlccmkfkemilbaaOpn
namespace Go.Proofs.Ytlccmkfkemilbaa.Bld
open Go.RowKit Go.Lib Go.Proofs.YtlccmkfkemilbaaW.PrintWords Go.Proofs.YtlccmkfkemilbaaW.PrintLast Go.Proofs.YtlccmkfkemilbaaW.PrintMore
set_option linter.unusedVariables false
set_option linter.unusedSimpArgs false
set_option maxHeartbeats 8000000 in
set_option maxRecDepth 100000 in
theorem text_calls (W : World) (kind many : Int) (name s : ByteArray) (more : Bool) (hs : s.size ≤ 300) (hm : 0 ≤ many ∧ many < 256) :
    Calls Try.prog 6 #[.agg #[.int .i64 kind, .string name, .string s, .bool more, .int .u8 many]] W fun e w' => ∃ t : ByteArray, e = .returned (.string t) ∧ t.size ≤ 80000 ∧ Below W.heap.size W w' := by
  obtain ⟨mn, rfl⟩ : ∃ mn : Nat, many = mn := ⟨many.toNat, by omega⟩
  obtain ⟨w1, hw1⟩ : ∃ w1, w1 = W.alloc (.cells #[.int .i64 kind, .string name, .string s, .bool more, .int .u8 mn] 26) := ⟨_, rfl⟩
  obtain ⟨g, hg⟩ : ∃ g, g = W.heap.size := ⟨_, rfl⟩
  have hgk : w1.heap[g]? = some (.cells #[.int .i64 kind, .string name, .string s, .bool more, .int .u8 mn] 26 (0, 0)) := by rw [hw1, hg]; exact Array.getElem?_push_size
  have c2 : w1.cell? ⟨g, 2, none⟩ = some (.string s) := (blk_cellB hgk 2).trans rfl
  have c4 : w1.cell? ⟨g, 4, none⟩ = some (.int .u8 mn) := (blk_cellB hgk 4).trans rfl
  have bl : Below W.heap.size W w1 := by rw [hw1]; exact below_alloc (Below.refl _ _) _
  have HB1 := Aside0.mk bl
  have HG := Aside0.mk (And.intro hw1 hg)
  clear hw1 hg bl hgk
  go_enter Try.func6, Try.ntmps6
  go_upto_region 1 with fail
  rw [← HG.out.1, ← HG.out.2]
  go_wp2_with fail
  go_loopw [3, 4] (fun y x wr => ∃ (k : Nat) (t : ByteArray), k ≤ 13 ∧ x = .int .i64 k ∧ y = .string t ∧ t.size ≤ 80000 ∧ wr = w1) (fun _ x _ => 13 - (intOf x).toNat)
  case atStart => exact ⟨0, s, by omega, rfl, rfl, by omega, rfl⟩
  case round =>
    obtain ⟨k, t, hk, rfl, rfl, ht, hw⟩ := hrel
    subst hw
    by_cases h1 : k < mn % 13
    · have e1 : decide ((k : Int) < (mn : Int) % 13) = true := decide_eq_true (by omega)
      have e1' : decide (k < mn % 13) = true := decide_eq_true h1
      by_cases h2 : t.size < 40000
      · have e2 : decide ((t.size : Int) < 40000) = true := decide_eq_true (by omega)
        have e3 : (t ++ t).size = t.size + t.size := by simp
        go_wp2_with fail
        go_roundw
        case rel => exact ⟨k + 1, t ++ t, by omega, by go_num, rfl, by omega, trivial⟩
        case measure => simp [intOf]; omega
      · have e2 : decide ((t.size : Int) < 40000) = false := decide_eq_false (by omega)
        go_wp2_with fail
        go_ret
        exact ⟨t, rfl, ht, HB1.out⟩
    · have e1 : decide ((k : Int) < (mn : Int) % 13) = false := decide_eq_false (by omega)
      have e1' : decide (k < mn % 13) = false := decide_eq_false h1
      go_wp2_with fail
      go_ret
      exact ⟨t, rfl, ht, HB1.out⟩
end Go.Proofs.Ytlccmkfkemilbaa.Bld
