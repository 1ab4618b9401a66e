/- Sub is the reference's Sub at all places, and the first characters and those behind are the text, for every text of up to 300 bytes (a longer one is cut by the law) and all whole numbers. -/
import Derived.Test.YtpghojihcmdlaaaPTextSubsx1
import Derived.Test.YtpghojihcmdlaaaLive
import Derived.Test.YtpghojihcmdlaaaSubs
namespace Go.Proofs.Ytpghojihcmdlaaa.Pure
open Go.RowKit Go.Proofs.Ytpghojihcmdlaaa.PTextSubs Go.Proofs.YtpghojihcmdlaaaW.PrintWords Go.Proofs.YtpghojihcmdlaaaW.PrintLast Go.Proofs.Ytpghojihcmdlaaa.Giv
set_option linter.unusedVariables false
set_option linter.unusedSimpArgs false

theorem lives_true : aukletlaw02_lives.f = some true := by
  unfold aukletlaw02_lives.f text_Len.f
  rw [live_len]; simp only [Option.bind_some]
  rw [if_pos trivial, live_sub]; simp only [Option.bind_some]
  rw [if_pos (by decide +kernel), live_index]; simp only [Option.bind_some]
  rfl

theorem short_le (s : ByteArray) : ∃ t, aukletlaw02_short.f s = some t ∧ t.size ≤ 300 := by
  unfold aukletlaw02_short.f
  by_cases h : (s.size : Int) > 300
  · rw [if_pos h, if_pos (by omega), if_pos (by omega)]
    exact ⟨_, rfl, by simp; omega⟩
  · rw [if_neg h]
    exact ⟨_, rfl, by omega⟩

theorem wrap_in {x : Int} (h0 : -9223372036854775808 ≤ x) (h1 : x ≤ 9223372036854775807) : wrap64 x = x := by unfold wrap64; omega

theorem drop_rd {L : List ByteArray} {i : Nat} (h : i < L.length) : L.drop i = rdOf ByteArray.empty L (i : Int) :: L.drop (i + 1) := by
  rw [List.drop_eq_getElem_cons h]
  simp [rdOf, List.getD, h]

theorem sub_loop (f m : Int) (L : List ByteArray) (hf0 : -9223372036854775808 ≤ f) (hf1 : f ≤ 9223372036854775807) (hm0 : -9223372036854775808 ≤ m) (hm1 : m ≤ 9223372036854775807) (hL : L.length ≤ 1000) :
    ∀ (d k i : Nat) (acc : ByteArray), L.length - i ≤ d → i ≤ L.length → acc.size + (join (L.drop i)).size ≤ 1000 → d + 1 ≤ k →
    aukletref02_Sub.l0 k f m L acc (i : Int) = some (acc ++ selcat f m i (L.drop i)) := by
  intro d
  induction d with
  | zero =>
    intro k i acc h1 h2 h3 hk
    obtain ⟨k, rfl⟩ : ∃ q, k = q + 1 := ⟨k - 1, by omega⟩
    simp only [aukletref02_Sub.l0]
    rw [if_neg (by omega), List.drop_eq_nil_of_le (by omega), selcat, ByteArray.append_empty]
  | succ d ih =>
    intro k i acc h1 h2 h3 hk
    obtain ⟨k, rfl⟩ : ∃ q, k = q + 1 := ⟨k - 1, by omega⟩
    by_cases hi : i < L.length
    · rw [drop_rd hi, join, ByteArray.size_append] at h3
      have yes := ih k (i + 1) (acc ++ rdOf ByteArray.empty L (i : Int)) (by omega) (by omega) (by rw [ByteArray.size_append]; omega) (by omega)
      have no := ih k (i + 1) acc (by omega) (by omega) (by omega) (by omega)
      have hsz : acc.size + (rdOf ByteArray.empty L (i : Int)).size ≤ 9223372036854775807 := by omega
      clear h3
      have e : wrap64 ((i : Int) + 1) = ((i + 1 : Nat) : Int) := wrap_in (by omega) (by omega)
      have e1 : f ≥ 1 → f ≤ ((i + 1 : Nat) : Int) → wrap64 (((i + 1 : Nat) : Int) - f) = ((i + 1 : Nat) : Int) - f := fun h g => wrap_in (by omega) (by omega)
      have e2 : m > 0 → wrap64 (((i + 1 : Nat) : Int) - m) = ((i + 1 : Nat) : Int) - m := fun h => wrap_in (by omega) (by omega)
      simp only [aukletref02_Sub.l0, aukletref02_far.f, Option.bind_some]
      rw [e, yes, no, drop_rd hi, selcat]
      have hsz : acc.size + (rdOf ByteArray.empty L (i : Int)).size ≤ 9223372036854775807 := by omega
      rw [if_pos (by omega)]
      by_cases s1 : ((i + 1 : Nat) : Int) ≥ f
      · rw [if_pos s1]
        by_cases s2 : m > 0
        · rw [if_pos s2]
          by_cases s3 : f ≥ 1
          · rw [if_pos s3, e1 s3 s1]
            by_cases s4 : ((i + 1 : Nat) : Int) - f < m
            · rw [if_pos s4, if_pos (by omega), if_pos hsz, if_pos (by unfold Sel; omega), ByteArray.append_assoc]
            · rw [if_neg s4, if_neg (by omega), if_neg (by unfold Sel; omega)]
          · rw [if_neg s3, if_pos (by omega), e2 s2]
            by_cases s4 : f > ((i + 1 : Nat) : Int) - m
            · rw [if_pos (by simpa using s4), if_pos (by omega), if_pos hsz, if_pos (by unfold Sel; omega), ByteArray.append_assoc]
            · rw [if_neg (by simpa using s4), if_neg (by unfold Sel; omega)]
        · rw [if_neg s2, if_neg (by unfold Sel; omega)]
      · rw [if_neg s1, if_neg (by unfold Sel; omega)]
    · simp only [aukletref02_Sub.l0]
      rw [if_neg (by omega), List.drop_eq_nil_of_le (by omega), selcat, ByteArray.append_empty]

theorem TextSubs : aukletlaw02_TextSubs.Pure := by
  intro s0 f m hs0 hf hm
  obtain ⟨s, hsh, hs⟩ := short_le s0
  have hf' : -9223372036854775808 ≤ f ∧ f ≤ 9223372036854775807 := by simpa [Lit.wf, IntKind.min, IntKind.max, IntKind.signed, IntKind.bits] using hf
  have hm' : -9223372036854775808 ≤ m ∧ m ≤ 9223372036854775807 := by simpa [Lit.wf, IntKind.min, IntKind.max, IntKind.signed, IntKind.bits] using hm
  have hC := cf_length_le s 0
  have hJ := join_all s
  obtain ⟨K, hK⟩ : ∃ K : Nat, 1001 ≤ K := ⟨1001, Nat.le_refl _⟩
  refine ⟨K + 1, ?_⟩
  unfold aukletlaw02_TextSubs.f
  rw [hsh]; simp only [Option.bind_some]
  have hsub : ∀ f m : Int, -9223372036854775808 ≤ f → f ≤ 9223372036854775807 → m ≤ 9223372036854775807 → text_Sub.f s f m = some (selcat f m 0 (cf s 0)) := fun f m h1 h2 h3 => by
    unfold text_Sub.f
    rw [if_pos ⟨by omega, h1, h2, h3⟩, sub_spec]
  have href : aukletref02_Sub.f (K + 1) s f m = some (selcat f m 0 (cf s 0)) := by
    unfold aukletref02_Sub.f aukletref02_Chars.f
    rw [if_pos (by omega)]; simp only [Option.bind_some]
    have := sub_loop f m (cf s 0) hf'.1 hf'.2 hm'.1 hm'.2 (by omega) 300 (K + 1) 0 ByteArray.empty (by omega) (by omega) (by rw [List.drop_zero, hJ]; simp; omega) (by omega)
    simp only [List.drop_zero, ByteArray.empty_append] at this
    exact this
  rw [hsub f m hf'.1 hf'.2 hm'.2, href]; simp only [Option.bind_some]
  rw [if_pos trivial]
  by_cases h1 : m < 0
  · rw [if_pos h1]
    simp only [aukletlaw02_TextSubs.j0]
    rw [if_pos trivial, lives_true]; rfl
  · rw [if_neg h1]
    simp only [aukletlaw02_TextSubs.j0]
    by_cases h2 : m > 1000
    · rw [if_pos (by simpa using h2), lives_true]; rfl
    · rw [if_neg (by simpa using h2)]
      have e : wrap64 (1 + m) = 1 + m := wrap_in (by omega) (by omega)
      rw [e, hsub 1 m (by omega) (by omega) (by omega), hsub (1 + m) 1000 (by omega) (by omega) (by omega)]
      simp only [Option.bind_some]
      have hp := parts m (by omega) 1000 (cf s 0) 0 (by omega)
      have hz : (selcat 1 m 0 (cf s 0)).size + (selcat (1 + m) 1000 0 (cf s 0)).size = s.size := by rw [← ByteArray.size_append, hp, hJ]
      rw [if_pos (by omega), hp, hJ, if_pos rfl, lives_true]; rfl

end Go.Proofs.Ytpghojihcmdlaaa.Pure
