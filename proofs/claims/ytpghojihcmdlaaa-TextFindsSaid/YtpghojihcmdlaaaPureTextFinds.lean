/- Index is the reference's Index, and the part found there is the text that was looked for, for every two texts of up to 300 bytes (longer ones are cut by the law). -/
import Derived.Test.YtpghojihcmdlaaaPTextFindsx1
import Derived.Test.YtpghojihcmdlaaaLive
import Derived.Test.YtpghojihcmdlaaaFinds
namespace Go.Proofs.Ytpghojihcmdlaaa.Pure
open Go.RowKit Go.Proofs.Ytpghojihcmdlaaa.PTextFinds Go.Proofs.YtpghojihcmdlaaaW.PrintWords Go.Proofs.YtpghojihcmdlaaaW.PrintLast Go.Proofs.Ytpghojihcmdlaaa.Giv
set_option linter.unusedVariables false
set_option linter.unusedSimpArgs false

theorem lives_true : aukletlaw02_lives.f = some true := by
  unfold aukletlaw02_lives.f text_Len.f
  rw [live_len]; simp only [Option.bind_some]
  rw [if_pos trivial, live_sub]; simp only [Option.bind_some]
  rw [if_pos (by decide +kernel), live_index]; simp only [Option.bind_some]
  rfl

theorem short_le (s : ByteArray) : ∃ t, aukletlaw02_short.f s = some t ∧ t.size ≤ 300 := by
  unfold aukletlaw02_short.f
  by_cases h : (s.size : Int) > 300
  · rw [if_pos h, if_pos (by omega), if_pos (by omega)]
    exact ⟨_, rfl, by simp; omega⟩
  · rw [if_neg h]
    exact ⟨_, rfl, by omega⟩

theorem wrap_in {x : Int} (h0 : -9223372036854775808 ≤ x) (h1 : x ≤ 9223372036854775807) : wrap64 x = x := by unfold wrap64; omega

theorem drop_rd {L : List ByteArray} {i : Nat} (h : i < L.length) : L.drop i = rdOf ByteArray.empty L (i : Int) :: L.drop (i + 1) := by
  rw [List.drop_eq_getElem_cons h]
  simp [rdOf, List.getD, h]

theorem toList_inj {a b : ByteArray} : a.toList = b.toList ↔ a = b := by
  rw [ByteArray.toList_eq, ByteArray.toList_eq]
  constructor
  · intro h; apply ByteArray.ext; exact Array.toList_inj.1 h
  · intro h; rw [h]

theorem begins_loop (a b : List ByteArray) (hb : b.length ≤ 1000) (hab : b.length ≤ a.length) : ∀ (d k i : Nat), b.length - i ≤ d → i ≤ b.length → d + 1 ≤ k →
    aukletref02_begins.l0 k a b (i : Int) = some (decide (b.drop i <+: a.drop i)) := by
  intro d
  induction d with
  | zero =>
    intro k i h1 h2 hk
    obtain ⟨k, rfl⟩ : ∃ q, k = q + 1 := ⟨k - 1, by omega⟩
    simp only [aukletref02_begins.l0]
    rw [if_neg (by omega), List.drop_eq_nil_of_le (show b.length ≤ i by omega)]
    simp
  | succ d ih =>
    intro k i h1 h2 hk
    obtain ⟨k, rfl⟩ : ∃ q, k = q + 1 := ⟨k - 1, by omega⟩
    by_cases hi : i < b.length
    · have go := ih k (i + 1) (by omega) (by omega) (by omega)
      simp only [aukletref02_begins.l0]
      rw [if_pos (by omega), if_pos (by omega), if_pos (by omega), wrap_in (x := (i : Int) + 1) (by omega) (by omega)]
      have e : (i : Int) + 1 = ((i + 1 : Nat) : Int) := by omega
      rw [e, go, drop_rd hi, drop_rd (L := a) (i := i) (by omega)]
      by_cases h : (rdOf ByteArray.empty a (i : Int)).toList = (rdOf ByteArray.empty b (i : Int)).toList
      · rw [if_pos h]
        have h2 := toList_inj.1 h
        congr 1
        rw [h2, Bool.eq_iff_iff, decide_eq_true_iff, decide_eq_true_iff, List.cons_prefix_cons]
        simp
      · rw [if_neg h]
        congr 1
        symm
        rw [decide_eq_false_iff_not, List.cons_prefix_cons]
        exact fun h2 => h (toList_inj.2 h2.1.symm)
    · simp only [aukletref02_begins.l0]
      rw [if_neg (by omega), List.drop_eq_nil_of_le (show b.length ≤ i by omega)]
      simp

theorem begins_spec (a b : List ByteArray) (k : Nat) (hb : b.length ≤ 1000) (hk : 1001 ≤ k) : aukletref02_begins.f k a b = some (decide (b <+: a)) := by
  unfold aukletref02_begins.f
  by_cases h : (b.length : Int) > (a.length : Int)
  · rw [if_pos h]
    congr 1
    symm
    rw [decide_eq_false_iff_not]
    intro hp
    have := hp.length_le
    omega
  · rw [if_neg h]
    have := begins_loop a b hb (by omega) b.length k 0 (by omega) (by omega) (by omega)
    simpa using this

theorem refindex_loop (t : ByteArray) (A B : List ByteArray) (hA : A.length ≤ 1000) (hB : B.length ≤ 1000) (K : Nat) (hK : 1001 ≤ K) : ∀ (d k i : Nat), A.length - i ≤ d → i ≤ A.length → K + d + 1 ≤ k →
    aukletref02_Index.l0 k t A B (i : Int) = some (if (findAt B i (A.drop i) : Nat) = 0 then (if t.toList = [] then 1 else 0) else (findAt B i (A.drop i) : Int)) := by
  intro d
  induction d with
  | zero =>
    intro k i h1 h2 hk
    obtain ⟨k, rfl⟩ : ∃ q, k = q + 1 := ⟨k - 1, by omega⟩
    simp only [aukletref02_Index.l0]
    rw [if_neg (by omega), List.drop_eq_nil_of_le (by omega), findAt, if_pos rfl]
    split <;> rfl
  | succ d ih =>
    intro k i h1 h2 hk
    obtain ⟨k, rfl⟩ : ∃ q, k = q + 1 := ⟨k - 1, by omega⟩
    by_cases hi : i < A.length
    · have go := ih k (i + 1) (by omega) (by omega) (by omega)
      simp only [aukletref02_Index.l0]
      have e : (i : Int) + 1 = ((i + 1 : Nat) : Int) := by omega
      rw [if_pos (by omega), if_pos (by omega), if_pos (by omega), begins_spec _ B k hB (by omega), wrap_in (x := (i : Int) + 1) (by omega) (by omega), e, go]
      simp only [Option.bind_some, Int.toNat_natCast, decide_eq_true_eq, drop_rd hi]
      rw [findAt]
      by_cases h : B <+: (rdOf ByteArray.empty A (i : Int) :: A.drop (i + 1))
      · rw [if_pos h, if_pos h, if_neg (by omega)]
      · rw [if_neg h, if_neg h]
    · simp only [aukletref02_Index.l0]
      rw [if_neg (by omega), List.drop_eq_nil_of_le (by omega), findAt, if_pos rfl]
      split <;> rfl

theorem TextFinds : aukletlaw02_TextFinds.Pure := by
  intro s0 t0 _ _
  obtain ⟨s, hsh, hs⟩ := short_le s0
  obtain ⟨t, hth, ht⟩ := short_le t0
  have hA := cf_length_le s 0
  have hB := cf_length_le t 0
  obtain ⟨K, hK⟩ : ∃ K : Nat, 1001 ≤ K := ⟨1001, Nat.le_refl _⟩
  refine ⟨K + 1000 + 1, ?_⟩
  have hr := refindex_loop t (cf s 0) (cf t 0) (by omega) (by omega) K hK 1000 (K + 1000 + 1) 0 (by omega) (by omega) (by omega)
  rw [List.drop_zero] at hr
  have hr' : aukletref02_Index.f (K + 1000 + 1) s t = some (if (findAt (cf t 0) 0 (cf s 0) : Nat) = 0 then (if t.toList = [] then 1 else 0) else (findAt (cf t 0) 0 (cf s 0) : Int)) := by
    unfold aukletref02_Index.f aukletref02_Chars.f
    rw [if_pos (by omega), if_pos (by omega)]
    simp only [Option.bind_some]
    exact hr
  have hi := index_find s t s.size 0 0 (by omega) (by omega)
  have hempty : t.size = 0 → t.toList = [] := fun h => by
    have := empty_of_size h
    simpa using this
  have hne : t.size ≠ 0 → t.toList ≠ [] := fun h h2 => by
    rw [ByteArray.toList_eq] at h2
    have h3 : t.data.toList.length = t.size := Array.length_toList
    rw [h2] at h3
    exact h h3.symm
  unfold aukletlaw02_TextFinds.f
  rw [hsh, hth]; simp only [Option.bind_some]
  rw [hr']
  unfold text_Index.f
  rw [if_pos ⟨by omega, by omega⟩, hi]; simp only [Option.bind_some]
  have hlen : text_Len.f t = some ((cf t 0).length : Int) := by
    unfold text_Len.f text_count.f
    rw [if_pos (by omega)]; rfl
  by_cases h0 : t.size = 0
  · have hb : cf t 0 = [] := cf_end (by omega)
    have hf : findAt (cf t 0) 0 (cf s 0) = 0 ∨ findAt (cf t 0) 0 (cf s 0) = 1 := by
      rw [hb]
      cases cf s 0 with
      | nil => exact .inl rfl
      | cons c L => rw [findAt, if_pos List.nil_prefix]; exact .inr rfl
    have h1 : (if (findAt (cf t 0) 0 (cf s 0) : Nat) = 0 then (if t.toList = [] then (1 : Int) else 0) else (findAt (cf t 0) 0 (cf s 0) : Int)) = 1 := by
      rcases hf with h | h
      · rw [if_pos h, if_pos (hempty h0)]
      · rw [if_neg (by omega), h]; rfl
    rw [h1, if_pos h0, if_pos rfl, if_neg (by omega), hlen, hb]
    simp only [Option.bind_some, List.length_nil]
    have hsub : text_Sub.f s 1 ((0 : Nat) : Int) = some ⟨#[]⟩ := by
      unfold text_Sub.f
      rw [if_pos ⟨by omega, by omega, by omega, by omega⟩, if_pos (by omega)]
    rw [hsub]; simp only [Option.bind_some]
    rw [if_pos (by rw [hempty h0]; decide +kernel), lives_true]; rfl
  · rw [if_neg h0]
    rcases find_prefix (cf t 0) (cf s 0) 0 with hf | ⟨hf, hp⟩
    · rw [hf, if_pos rfl, if_neg (hne h0), if_pos (by omega), if_pos (by omega), lives_true]; rfl
    · have hle : findAt (cf t 0) 0 (cf s 0) ≤ 1000 := by
        have h2 := hp.length_le
        rw [List.length_drop] at h2
        have h3 : 0 < (cf t 0).length := by rw [cf_lt (by omega)]; simp
        omega
      generalize hn : findAt (cf t 0) 0 (cf s 0) = n at *
      have en : (if n = 0 then (if t.toList = [] then (1 : Int) else 0) else (n : Int)) = (n : Int) := if_neg (by omega)
      have en0 : ¬ ((n : Int) = 0) := by omega
      rw [en, if_pos rfl, if_neg en0, hlen]
      simp only [Option.bind_some]
      have hsub : text_Sub.f s (n : Int) ((cf t 0).length : Int) = some t := by
        unfold text_Sub.f
        rw [if_pos ⟨by omega, by omega, by omega, by omega⟩, sub_spec, selcat_take n _ (by omega)]
        have e1 : n - 1 - 0 = n - 1 := by omega
        have e2 : (cf t 0).length - (0 + 1 - n) = (cf t 0).length := by omega
        rw [e1, e2]
        have e3 : n - 1 - 0 = n - 1 := by omega
        rw [e3] at hp
        rw [← List.prefix_iff_eq_take.1 hp, join_all]
      rw [hsub]; simp only [Option.bind_some]
      rw [if_pos trivial, lives_true]; rfl

end Go.Proofs.Ytpghojihcmdlaaa.Pure
