/- A text's characters begin with another one's just if its bytes do and a character of its own ends there. -/
import Derived.Test.YtpghojihcmdlaaaSubs
set_option linter.unusedVariables false
set_option linter.unusedSimpArgs false
namespace Go.Proofs.Ytpghojihcmdlaaa.Giv

/-- A character that ends within a shorter text is that text's, too. -/
theorem decodeN_cut (n m b0 b1 b2 b3 c1 c2 c3 : Nat) (hm : 1 ≤ m) (hmn : m ≤ n) (h1 : 1 < m → c1 = b1) (h2 : 2 < m → c2 = b2) (h3 : 3 < m → c3 = b3)
    (hw : (Lib.decodeN n b0 b1 b2 b3).2 ≤ m) : (Lib.decodeN m b0 c1 c2 c3).2 = (Lib.decodeN n b0 b1 b2 b3).2 := by
  by_cases k1 : 1 < m
  · obtain rfl := h1 k1
    by_cases k2 : 2 < m
    · obtain rfl := h2 k2
      by_cases k3 : 3 < m
      · obtain rfl := h3 k3
        have e1 : (1 < m) = (1 < n) := propext ⟨fun _ => by omega, fun _ => by omega⟩
        have e2 : (2 < m) = (2 < n) := propext ⟨fun _ => by omega, fun _ => by omega⟩
        have e3 : (3 < m) = (3 < n) := propext ⟨fun _ => by omega, fun _ => by omega⟩
        unfold Lib.decodeN
        simp only [e1, e2, e3]
      · unfold Lib.decodeN at hw ⊢
        have e1 : (1 < m) = (1 < n) := propext ⟨fun _ => by omega, fun _ => by omega⟩
        have e2 : (2 < m) = (2 < n) := propext ⟨fun _ => by omega, fun _ => by omega⟩
        simp only [e1, e2] at hw ⊢
        repeat' split at hw
        all_goals first | rfl | (simp_all; done) | (simp only at hw; omega) | skip
        all_goals (repeat' split)
        all_goals first | rfl | (exfalso; omega) | (simp_all; done)
    · unfold Lib.decodeN at hw ⊢
      repeat' split at hw
      all_goals (repeat' split)
      all_goals first | rfl | (exfalso; omega) | (simp only at hw; omega) | (simp_all; done)
  · unfold Lib.decodeN at hw ⊢
    repeat' split at hw
    all_goals (repeat' split)
    all_goals first | rfl | (exfalso; omega) | (simp only at hw; omega) | (simp_all; done)

/-- t is what u begins with, byte by byte. -/
def Head (u t : ByteArray) : Prop := t.size ≤ u.size ∧ u.extract 0 t.size = t

theorem head_get {u t : ByteArray} (h : Head u t) (i : Nat) (hi : i < t.size) : t.get! i = u.get! i := by
  have h2 : t.data.toList.getD i 0 = u.data.toList.getD i 0 := by
    have := congrArg (fun x : ByteArray => x.data.toList.getD i 0) h.2
    rw [← this, Lib.extract_data]
    simp [List.getD, List.getElem?_take, hi]
  rw [← Lib.getD_get!', ← Lib.getD_get!', h2]

theorem wd_head {u t : ByteArray} (h : Head u t) {q : Nat} (hq : q < t.size) (hw : q + wd u q ≤ t.size) : wd t q = wd u q := by
  unfold wd at hw ⊢
  rw [Lib.decode_at] at hw
  rw [Lib.decode_at, Lib.decode_at]
  rw [head_get h q hq]
  exact decodeN_cut (u.size - q) (t.size - q) _ _ _ _ _ _ _ (by omega) (by have := h.1; omega) (fun k => by rw [head_get h _ (by omega)]) (fun k => by rw [head_get h _ (by omega)]) (fun k => by rw [head_get h _ (by omega)]) (by omega)

theorem ext_head {u t : ByteArray} (h : Head u t) {a b : Nat} (hb : b ≤ t.size) : t.extract a b = u.extract a b := by
  have h2 := h.2
  have : (u.extract 0 t.size).extract a b = t.extract a b := by rw [h2]
  rw [← this, ByteArray.extract_extract]
  congr 1 <;> omega

theorem whole_prefix (u t : ByteArray) (h : Head u t) (hlt : t.size < u.size) : ∀ (d q : Nat), t.size - q ≤ d → q ≤ t.size → wholeGo u t q = true → cf t q <+: cf u q := by
  intro d
  induction d with
  | zero =>
    intro q h1 h2 _
    rw [cf_end (s := t) (by omega)]
    exact List.nil_prefix
  | succ d ih =>
    intro q h1 h2 hw
    by_cases hq : q < t.size
    · have hwd := wd_fits t q hq
      rw [wholeGo_lt (by omega), if_neg (by omega)] at hw
      by_cases c : t.size < q + wd u q
      · rw [if_pos c] at hw; cases hw
      · rw [if_neg c] at hw
        have e := wd_head h hq (by omega)
        rw [cf_lt hq, cf_lt (s := u) (by omega), e, ext_head h (by omega)]
        rw [← e] at hw ⊢
        exact (List.prefix_cons_inj _).2 (ih _ (by omega) (by omega) hw)
    · rw [cf_end (s := t) (by omega)]
      exact List.nil_prefix

theorem prefix_whole (u t : ByteArray) (htu : t.size ≤ u.size) : ∀ (d q : Nat), t.size - q ≤ d → q ≤ t.size → cf t q <+: cf u q → wholeGo u t q = true := by
  intro d
  induction d with
  | zero =>
    intro q h1 h2 _
    by_cases c : q < u.size
    · rw [wholeGo_lt c, if_pos (by omega)]; simp; omega
    · exact wholeGo_end c
  | succ d ih =>
    intro q h1 h2 hp
    by_cases hq : q < t.size
    · have hwt := wd_fits t q hq
      have hwu := wd_fits u q (by omega)
      rw [cf_lt hq, cf_lt (s := u) (by omega)] at hp
      obtain ⟨he, hp⟩ := List.cons_prefix_cons.1 hp
      have hs : wd t q = wd u q := by
        have := congrArg ByteArray.size he
        simp only [ByteArray.size_extract] at this
        omega
      rw [← hs] at hp
      rw [wholeGo_lt (by omega), if_neg (by omega), if_neg (by omega), ← hs]
      exact ih _ (by omega) (by omega) hp
    · by_cases c : q < u.size
      · rw [wholeGo_lt c, if_pos (by omega)]; simp; omega
      · exact wholeGo_end c

theorem join_append : ∀ a b : List ByteArray, join (a ++ b) = join a ++ join b
  | [], b => by simp [join]
  | c :: a, b => by simp [join, join_append a b, ByteArray.append_assoc]

theorem pref_iff (u t : ByteArray) : pref u t = true ↔ Head u t := by
  unfold pref Head
  rw [Bool.and_eq_true, decide_eq_true_iff, beq_iff_eq, ByteArray.toList_eq, ByteArray.toList_eq]
  constructor
  · rintro ⟨h1, h2⟩
    exact ⟨h1, by apply ByteArray.ext; exact Array.toList_inj.1 h2⟩
  · rintro ⟨h1, h2⟩
    exact ⟨h1, by rw [h2]⟩

theorem found_iff (u t : ByteArray) : (pref u t && whole u t) = true ↔ cf t 0 <+: cf u 0 := by
  rw [Bool.and_eq_true, pref_iff]
  constructor
  · rintro ⟨h, hw⟩
    by_cases c : u.size = t.size
    · have : u = t := by
        have h2 := h.2
        rw [← c] at h2
        rw [← h2]; simp
      rw [this]; exact List.prefix_refl _
    · unfold whole at hw
      have hb : (u.size == t.size) = false := beq_eq_false_iff_ne.2 c
      rw [hb, Bool.false_or] at hw
      exact whole_prefix u t h (by have := h.1; omega) t.size 0 (by omega) (by omega) hw
  · intro hp
    obtain ⟨r, hr⟩ := hp
    have hj : u = t ++ join r := by
      have := congrArg join hr
      rw [join_append, join_all, join_all] at this
      exact this.symm
    have hsz : u.size = t.size + (join r).size := by rw [hj, ByteArray.size_append]
    have hh : Head u t := ⟨by omega, by rw [hj]; apply ByteArray.ext; simp⟩
    refine ⟨hh, ?_⟩
    unfold whole
    rw [prefix_whole u t (by omega) t.size 0 (by omega) (by omega) ⟨r, hr⟩, Bool.or_true]

theorem cf_tail (s : ByteArray) (n : Nat) : ∀ (d p : Nat), s.size - (n + p) ≤ d → n + p ≤ s.size → cf (s.extract n s.size) p = cf s (n + p) := by
  intro d
  induction d with
  | zero =>
    intro p h1 h2
    rw [cf_end (by rw [Lib.tail_size]; omega), cf_end (by omega)]
  | succ d ih =>
    intro p h1 h2
    by_cases c : n + p < s.size
    · have hw := wd_fits s (n + p) c
      rw [cf_lt (by rw [Lib.tail_size]; omega), cf_lt c, wd_tail, ih _ (by omega) (by omega), ByteArray.extract_extract, Nat.add_assoc]
      congr 2
      omega
    · rw [cf_end (by rw [Lib.tail_size]; omega), cf_end c]

/-- Where the characters of b stand in those of a first, n of which are behind us: from 1; 0: nowhere. -/
def findAt (b : List ByteArray) : Nat → List ByteArray → Nat
  | _, [] => 0
  | n, c :: L => if b <+: (c :: L) then n + 1 else findAt b (n + 1) L

theorem index_find (s t : ByteArray) : ∀ (d n p : Nat), s.size - p ≤ d → p ≤ s.size → indexGo s t n p = findAt (cf t 0) n (cf s p) := by
  intro d
  induction d with
  | zero =>
    intro n p h1 h2
    rw [indexGo_end (by omega), cf_end (s := s) (p := p) (by omega), findAt]
  | succ d ih =>
    intro n p h1 h2
    by_cases c : p < s.size
    · have hw := wd_fits s p c
      have hf := found_iff (s.extract p s.size) t
      rw [cf_tail s p s.size 0 (by omega) (by omega), Nat.add_zero] at hf
      rw [indexGo_lt c, ih _ _ (by omega) (by omega)]
      rw [cf_lt c] at hf ⊢
      rw [findAt]
      by_cases hb : (pref (s.extract p s.size) t && whole (s.extract p s.size) t) = true
      · rw [if_pos hb, if_pos (hf.1 hb)]
      · rw [if_neg hb, if_neg (fun h => hb (hf.2 h))]
    · rw [indexGo_end c, cf_end (s := s) c, findAt]

theorem find_prefix (b : List ByteArray) : ∀ (L : List ByteArray) (n : Nat), findAt b n L = 0 ∨ n < findAt b n L ∧ b <+: L.drop (findAt b n L - 1 - n)
  | [], _ => .inl rfl
  | c :: L, n => by
    rw [findAt]
    by_cases h : b <+: (c :: L)
    · rw [if_pos h]
      refine .inr ⟨by omega, ?_⟩
      have : n + 1 - 1 - n = 0 := by omega
      rw [this]
      exact h
    · rw [if_neg h]
      rcases find_prefix b L (n + 1) with h0 | ⟨h1, h2⟩
      · exact .inl h0
      · refine .inr ⟨by omega, ?_⟩
        have : findAt b (n + 1) L - 1 - n = (findAt b (n + 1) L - 1 - (n + 1)) + 1 := by omega
        rw [this, List.drop_succ_cons]
        exact h2

theorem selcat_take (f m : Nat) (hf : 1 ≤ f) : ∀ (L : List ByteArray) (n : Nat), selcat f m n L = join ((L.drop (f - 1 - n)).take (m - (n + 1 - f)))
  | [], n => by simp [selcat, join]
  | c :: L, n => by
    rw [selcat, selcat_take f m hf L (n + 1)]
    by_cases h1 : f ≤ n + 1
    · have e1 : f - 1 - n = 0 := by omega
      have e2 : f - 1 - (n + 1) = 0 := by omega
      rw [e1, e2]
      simp only [List.drop_zero]
      by_cases h2 : n + 1 - f < m
      · rw [if_pos (by unfold Sel; omega)]
        have e3 : m - (n + 1 - f) = (m - (n + 1 + 1 - f)) + 1 := by omega
        rw [e3, List.take_succ_cons, join]
      · rw [if_neg (by unfold Sel; omega)]
        have e3 : m - (n + 1 - f) = 0 := by omega
        have e4 : m - (n + 1 + 1 - f) = 0 := by omega
        rw [e3, e4]
        simp
    · rw [if_neg (by unfold Sel; omega)]
      have e1 : f - 1 - n = (f - 1 - (n + 1)) + 1 := by omega
      have e2 : n + 1 - f = 0 := by omega
      have e3 : n + 1 + 1 - f = 0 := by omega
      rw [e1, e2, e3, List.drop_succ_cons]

end Go.Proofs.Ytpghojihcmdlaaa.Giv
