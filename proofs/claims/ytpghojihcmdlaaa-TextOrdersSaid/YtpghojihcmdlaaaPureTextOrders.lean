/- Of two texts Compare and the reference tell the same, and turned about the opposite, for every two texts. -/
import Derived.Test.YtpghojihcmdlaaaPTextOrdersx1
import Derived.Test.YtpghojihcmdlaaaLive
namespace Go.Proofs.Ytpghojihcmdlaaa.Pure
open Go.RowKit Go.Proofs.Ytpghojihcmdlaaa.PTextOrders Go.Proofs.YtpghojihcmdlaaaW.PrintWords Go.Proofs.YtpghojihcmdlaaaW.PrintLast Go.Proofs.Ytpghojihcmdlaaa.Giv
set_option linter.unusedVariables false
set_option linter.unusedSimpArgs false

theorem toNat_ne {a b : UInt8} (h : a.toNat ≠ b.toNat) : (a < b ↔ a.toNat < b.toNat) := UInt8.lt_iff_toNat_lt

theorem cmp_cons (a b : UInt8) (x y : List UInt8) : Lib.compareBytes (a :: x) (b :: y) = if a < b then -1 else if b < a then 1 else Lib.compareBytes x y := by rw [Lib.compareBytes]

theorem cmp_end (s t : ByteArray) (k i : Nat) (h1 : ¬ i < s.size) (h2 : i ≤ s.size) (h3 : i ≤ t.size) :
    aukletref02_Compare.l0 (k + 2) s t (i : Int) = some (Lib.compareBytes (s.data.toList.drop i) (t.data.toList.drop i)) := by
  simp only [aukletref02_Compare.l0]
  rw [if_neg (by omega)]
  simp only [aukletref02_Compare.j1]
  rw [if_neg (by simp), drop_end (by omega)]
  by_cases he : s.size = t.size
  · rw [if_pos (by omega), drop_end (by omega)]; rfl
  · rw [if_neg (by omega), if_pos (by omega), drop_bt (by omega)]; rfl

theorem cmp_loop (s t : ByteArray) (hs : s.size ≤ 140737488351232) (ht : t.size ≤ 140737488351232) : ∀ (d k i : Nat), s.size - i ≤ d → i ≤ s.size → i ≤ t.size → 2 * d + 2 ≤ k →
    aukletref02_Compare.l0 k s t (i : Int) = some (Lib.compareBytes (s.data.toList.drop i) (t.data.toList.drop i)) := by
  intro d
  induction d with
  | zero =>
    intro k i h1 h2 h3 hk
    obtain ⟨k, rfl⟩ : ∃ m, k = m + 2 := ⟨k - 2, by omega⟩
    exact cmp_end s t k i (by omega) h2 h3
  | succ d ih =>
    intro k i h1 h2 h3 hk
    obtain ⟨k, rfl⟩ : ∃ m, k = m + 2 := ⟨k - 2, by omega⟩
    by_cases hi : i < s.size
    · simp only [aukletref02_Compare.l0]
      rw [if_pos (by omega)]
      simp only [aukletref02_Compare.j1]
      by_cases hj : i < t.size
      · have e : wrap64 ((i : Int) + 1) = ((i + 1 : Nat) : Int) := by unfold wrap64; omega
        rw [if_pos (by simpa using hj), if_pos (by omega), if_pos (by omega), if_pos (by omega), bt_nat hi, bt_nat hj, e, ih k (i + 1) (by omega) (by omega) (by omega) (by omega), drop_bt hi, drop_bt hj]
        generalize s.data.toList.getD i 0 = a
        generalize t.data.toList.getD i 0 = b
        rw [cmp_cons]
        by_cases hab : (a.toNat : Int) = (b.toNat : Int)
        · have : a = b := UInt8.toNat_inj.1 (by omega)
          subst this
          rw [if_pos rfl, if_neg (by simp), if_neg (by simp)]
        · rw [if_neg hab]
          by_cases hlt : (a.toNat : Int) < (b.toNat : Int)
          · rw [if_pos hlt, if_pos (UInt8.lt_iff_toNat_lt.2 (by omega))]
          · rw [if_neg hlt, if_neg (by rw [UInt8.lt_iff_toNat_lt]; omega), if_pos (UInt8.lt_iff_toNat_lt.2 (by omega))]
      · rw [if_neg (by simpa using hj), if_neg (by omega), if_neg (by omega), drop_bt hi, drop_end (s := t) (by omega)]
        rfl
    · exact cmp_end s t k i hi h2 h3

theorem cmp_swap : ∀ a b : List UInt8, Lib.compareBytes b a = - Lib.compareBytes a b ∧ -1 ≤ Lib.compareBytes a b ∧ Lib.compareBytes a b ≤ 1
  | [], [] => by simp [Lib.compareBytes]
  | [], _ :: _ => by simp [Lib.compareBytes]
  | _ :: _, [] => by simp [Lib.compareBytes]
  | a :: xs, b :: ys => by
    have ih := cmp_swap xs ys
    rw [cmp_cons, cmp_cons]
    simp only [UInt8.lt_iff_toNat_lt]
    by_cases h1 : a.toNat < b.toNat
    · rw [if_pos h1, if_neg (by omega), if_pos h1]; omega
    · rw [if_neg h1]
      by_cases h2 : b.toNat < a.toNat
      · rw [if_pos h2, if_pos h2]; omega
      · rw [if_neg h2, if_neg h2, if_neg h1]; exact ih

theorem TextOrders : aukletlaw02_TextOrders.Pure := by
  intro s t hs ht
  refine ⟨2 * s.size + 2, ?_⟩
  have hl := cmp_loop s t hs ht s.size (2 * s.size + 2) 0 (by omega) (by omega) (by omega) (by omega)
  simp only [List.drop_zero] at hl
  have hsw := cmp_swap s.data.toList t.data.toList
  have hlive : aukletlaw02_lives.f = some true := by
    unfold aukletlaw02_lives.f text_Len.f
    rw [live_len]; simp only [Option.bind_some]
    rw [if_pos trivial, live_sub]; simp only [Option.bind_some]
    rw [if_pos (by decide +kernel), live_index]; simp only [Option.bind_some]
    rfl
  unfold aukletlaw02_TextOrders.f aukletref02_Compare.f text_Compare.f strings_Compare.f
  simp only [Option.bind_some]
  have hl' : aukletref02_Compare.l0 (2 * s.size + 2) s t 0 = some (Lib.compareBytes s.data.toList t.data.toList) := hl
  rw [hl']; simp only [Option.bind_some]
  rw [if_pos trivial, hlive, if_pos (by rw [hsw.1]; unfold wrap64; omega)]
  rfl

end Go.Proofs.Ytpghojihcmdlaaa.Pure
