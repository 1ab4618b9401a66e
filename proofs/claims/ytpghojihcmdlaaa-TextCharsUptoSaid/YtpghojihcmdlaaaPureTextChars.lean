/- Chars is the reference's Chars, Len their number, and joined they are the text, for every text of up to 1048576 bytes. -/
import Derived.Test.YtpghojihcmdlaaaPTextCharsx1
import Derived.Test.YtpghojihcmdlaaaLive
import Derived.Test.YtpghojihcmdlaaaSubs
namespace Go.Proofs.Ytpghojihcmdlaaa.Pure
open Go.RowKit Go.Proofs.Ytpghojihcmdlaaa.PTextChars Go.Proofs.YtpghojihcmdlaaaW.PrintWords Go.Proofs.YtpghojihcmdlaaaW.PrintLast Go.Proofs.Ytpghojihcmdlaaa.Giv
set_option linter.unusedVariables false
set_option linter.unusedSimpArgs false

theorem lives_true : aukletlaw02_lives.f = some true := by
  unfold aukletlaw02_lives.f text_Len.f
  rw [live_len]; simp only [Option.bind_some]
  rw [if_pos trivial, live_sub]; simp only [Option.bind_some]
  rw [if_pos (by decide +kernel), live_index]; simp only [Option.bind_some]
  rfl

theorem wrap_in {x : Int} (h0 : -9223372036854775808 ≤ x) (h1 : x ≤ 9223372036854775807) : wrap64 x = x := by unfold wrap64; omega

theorem drop_rd {L : List ByteArray} {i : Nat} (h : i < L.length) : L.drop i = rdOf ByteArray.empty L (i : Int) :: L.drop (i + 1) := by
  rw [List.drop_eq_getElem_cons h]
  simp [rdOf, List.getD, h]

theorem same_self (L : List ByteArray) (hL : L.length ≤ 1048576) : ∀ (d k i : Nat), L.length - i ≤ d → i ≤ L.length → d + 1 ≤ k → aukletref02_Same.l0 k L L (i : Int) = some true := by
  intro d
  induction d with
  | zero =>
    intro k i h1 h2 hk
    obtain ⟨k, rfl⟩ : ∃ q, k = q + 1 := ⟨k - 1, by omega⟩
    simp only [aukletref02_Same.l0]
    rw [if_neg (by omega)]
  | succ d ih =>
    intro k i h1 h2 hk
    obtain ⟨k, rfl⟩ : ∃ q, k = q + 1 := ⟨k - 1, by omega⟩
    simp only [aukletref02_Same.l0]
    by_cases hi : i < L.length
    · have go := ih k (i + 1) (by omega) (by omega) (by omega)
      have e : (i : Int) + 1 = ((i + 1 : Nat) : Int) := by omega
      rw [if_pos (by omega), if_pos (by omega), if_pos (by omega), if_pos trivial, wrap_in (x := (i : Int) + 1) (by omega) (by omega), e, go]
    · rw [if_neg (by omega)]

theorem chars_loop (s : ByteArray) (L : List ByteArray) (hL : L.length ≤ 1048576) (k0 : Nat) (r : Option Bool)
    (hend : ∀ k, k0 ≤ k → aukletlaw02_TextChars.l0 (k + 1) s L (join (L.take 400)) (L.length : Int) = r) : ∀ (d k i : Nat) (acc : ByteArray), L.length - i ≤ d → i ≤ L.length → acc.size + (join (L.drop i)).size ≤ 1048576 → acc ++ join ((L.drop i).take (400 - i)) = join (L.take 400) → k0 + d + 1 ≤ k →
    aukletlaw02_TextChars.l0 k s L acc (i : Int) = r := by
  intro d
  induction d with
  | zero =>
    intro k i acc h1 h2 h3 h4 hk
    obtain ⟨k, rfl⟩ : ∃ q, k = q + 1 := ⟨k - 1, by omega⟩
    have hi : i = L.length := by omega
    subst hi
    rw [List.drop_eq_nil_of_le (Nat.le_refl _), List.take_nil, join, ByteArray.append_empty] at h4
    rw [h4]
    exact hend k (by omega)
  | succ d ih =>
    intro k i acc h1 h2 h3 h4 hk
    obtain ⟨k, rfl⟩ : ∃ q, k = q + 1 := ⟨k - 1, by omega⟩
    by_cases hi : i < L.length
    · rw [drop_rd hi] at h3 h4
      rw [join, ByteArray.size_append] at h3
      have e : (i : Int) + 1 = ((i + 1 : Nat) : Int) := by omega
      simp only [aukletlaw02_TextChars.l0]
      rw [if_pos (by omega)]
      by_cases h5 : i < 400
      · have e4 : 400 - i = (400 - (i + 1)) + 1 := by omega
        rw [e4, List.take_succ_cons, join, ← ByteArray.append_assoc] at h4
        have go := ih k (i + 1) (acc ++ rdOf ByteArray.empty L (i : Int)) (by omega) (by omega) (by rw [ByteArray.size_append]; omega) h4 (by omega)
        rw [if_pos (by omega), if_pos (by omega), if_pos (by omega), wrap_in (x := (i : Int) + 1) (by omega) (by omega), e, go]
      · have e4 : 400 - i = 0 := by omega
        have e5 : 400 - (i + 1) = 0 := by omega
        rw [e4, List.take_zero] at h4
        have go := ih k (i + 1) acc (by omega) (by omega) (by omega) (by rw [e5, List.take_zero]; exact h4) (by omega)
        rw [if_neg (by omega), wrap_in (x := (i : Int) + 1) (by omega) (by omega), e, go]
    · have hi : i = L.length := by omega
      subst hi
      rw [List.drop_eq_nil_of_le (Nat.le_refl _), List.take_nil, join, ByteArray.append_empty] at h4
      rw [h4]
      exact hend k (by omega)

theorem TextCharsUpto (s : ByteArray) (hs : s.size ≤ 1048576) : ∃ k, aukletlaw02_TextChars.f k s = some true := by
  have hC := cf_length_le s 0
  have hJ := join_all s
  have hrefl := same_self (cf s 0) (by omega)
  have hend : ∀ k, (cf s 0).length + 1 ≤ k → aukletlaw02_TextChars.l0 (k + 1) s (cf s 0) (join ((cf s 0).take 400)) ((cf s 0).length : Int) = some true := by
    intro k hk
    simp only [aukletlaw02_TextChars.l0]
    rw [if_neg (by omega)]
    have hc : aukletref02_Chars.f s = some (cf s 0) := by unfold aukletref02_Chars.f; rw [if_pos (by omega)]
    have hsame : aukletref02_Same.f k (cf s 0) (cf s 0) = some true := by
      unfold aukletref02_Same.f
      rw [if_pos rfl]
      exact hrefl (cf s 0).length k 0 (by omega) (by omega) (by omega)
    have hlen : text_Len.f s = some ((cf s 0).length : Int) := by
      unfold text_Len.f text_count.f
      rw [if_pos (by omega)]; rfl
    rw [hc]; simp only [Option.bind_some]
    rw [hsame]; simp only [Option.bind_some]
    rw [if_pos trivial, hlen]; simp only [Option.bind_some]
    rw [if_pos trivial]
    by_cases h : ((cf s 0).length : Int) > 400
    · rw [if_pos h, lives_true]; rfl
    · rw [if_neg h, List.take_of_length_le (by omega), hJ, if_pos rfl, lives_true]; rfl
  refine ⟨(cf s 0).length + 1 + (cf s 0).length + 1, ?_⟩
  unfold aukletlaw02_TextChars.f text_Chars.f
  rw [if_pos (by omega)]; simp only [Option.bind_some]
  exact chars_loop s (cf s 0) (by omega) ((cf s 0).length + 1) (some true) hend (cf s 0).length _ 0 ByteArray.empty (by omega) (by omega) (by rw [List.drop_zero, hJ]; simpa using hs) (by rw [List.drop_zero]; simp) (by omega)

end Go.Proofs.Ytpghojihcmdlaaa.Pure
