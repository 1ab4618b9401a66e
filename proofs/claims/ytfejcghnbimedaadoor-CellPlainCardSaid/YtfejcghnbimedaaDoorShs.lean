/- The law on numbers' texts. -/
import Derived.Test.YtfejcghnbimedaaDoorScaC
import Derived.Test.YtfejcghnbimedaaDoorShw
import Derived.Test.YtfejcghnbimedaaDoorGivQ
set_option linter.unusedVariables false
set_option linter.unusedSimpArgs false
namespace Go.Proofs.YtfejcghnbimedaaDoor.Shw
open Go.RowKit Go.Proofs.YtfejcghnbimedaaDoor.PCell Go.Proofs.YtfejcghnbimedaaDoorW.PrintWords Go.Proofs.YtfejcghnbimedaaDoorW.PrintLast
open Go.Proofs.YtfejcghnbimedaaDoor.Dig Go.Proofs.YtfejcghnbimedaaDoor.Div Go.Proofs.YtfejcghnbimedaaDoor.Giv

/-! ### what is behind a place of a text -/
def tl (s : ByteArray) (p : Nat) : List UInt8 := s.data.toList.drop p
theorem size_len (s : ByteArray) : s.data.toList.length = s.size := Array.length_toList
theorem tl_cons {s : ByteArray} {p : Nat} {c : UInt8} {M : List UInt8} (h : tl s p = c :: M) : p < s.size ∧ by_ s p = c.toNat ∧ tl s (p + 1) = M := by
  unfold tl at h
  have hp : p < s.data.toList.length := by
    apply Decidable.byContradiction
    intro hn
    rw [List.drop_eq_nil_of_le (by omega)] at h
    cases h
  rw [List.drop_eq_getElem_cons hp] at h
  injection h with h1 h2
  refine ⟨by rw [← size_len]; exact hp, ?_, h2⟩
  unfold by_
  have e : s.data.toList.getD p 0 = c := by
    rw [List.getD_eq_getElem?_getD, List.getElem?_eq_getElem hp, h1]; rfl
  rw [e]
theorem tl_nil {s : ByteArray} {p : Nat} (h : tl s p = []) : s.size ≤ p := by
  unfold tl at h
  rw [List.drop_eq_nil_iff, size_len] at h
  exact h

/-- What stops the digits: no digit, and no point. -/
def Stop (M : List UInt8) : Prop := ∀ c M', M = c :: M' → c.toNat ≠ 46 ∧ ¬ (48 ≤ c.toNat ∧ c.toNat ≤ 57)
theorem stop_isD {s : ByteArray} {p : Nat} {M : List UInt8} (h : tl s p = M) (hs : ∀ c M', M = c :: M' → ¬ (48 ≤ c.toNat ∧ c.toNat ≤ 57)) : isD s p = false := by
  cases hM : M with
  | nil => rw [hM] at h; unfold isD; rw [decide_eq_false (by have := tl_nil h; omega)]; rfl
  | cons c M' =>
    rw [hM] at h
    obtain ⟨h1, h2, _⟩ := tl_cons h
    have := hs c M' hM
    unfold isD
    rw [decide_eq_true h1, h2, Bool.true_and, ← Bool.decide_and]
    exact decide_eq_false this
theorem stop_isDot {s : ByteArray} {p : Nat} {M : List UInt8} (h : tl s p = M) (hs : ∀ c M', M = c :: M' → c.toNat ≠ 46) : isDot s p = false := by
  cases hM : M with
  | nil => rw [hM] at h; unfold isDot; rw [decide_eq_false (by have := tl_nil h; omega)]; rfl
  | cons c M' =>
    rw [hM] at h
    obtain ⟨h1, h2, _⟩ := tl_cons h
    have := hs c M' hM
    unfold isDot
    rw [h2, beq_eq_false_iff_ne.2 this, Bool.and_false]

/-- The bytes of a list of numbers. -/
def ch (L : List Int) : List UInt8 := L.map fun n => UInt8.ofNat n.toNat
theorem ch_cons (c : Int) (L : List Int) : ch (c :: L) = UInt8.ofNat c.toNat :: ch L := rfl
theorem ch_append (A B : List Int) : ch (A ++ B) = ch A ++ ch B := List.map_append
theorem u8_nat {c : Int} (h0 : 0 ≤ c) (h1 : c < 256) : (UInt8.ofNat c.toNat).toNat = c.toNat := by
  rw [UInt8.toNat_ofNat']; omega

/-! ### the reader on digits -/
def StOk (st : St) (V : Int) : Prop := 0 ≤ V ∧ 0 ≤ st.1 ∧ st.1 < 18446744073709551616 ∧ (st.2 = false → st.1 = V) ∧ (st.2 = true → 18446744073709551616 ≤ V)
theorem StOk.addw {st : St} {V x : Int} (h : StOk st V) (hx : 0 ≤ x) : StOk (addw st x) (V + x) := by
  obtain ⟨h0, h1, h2, h3, h4⟩ := h
  unfold StOk Giv.addw
  simp only
  refine ⟨by omega, by omega, by omega, fun h => ?_, fun h => ?_⟩
  · rw [Bool.or_eq_false_iff, decide_eq_false_iff_not] at h
    have := h3 h.1
    omega
  · rw [Bool.or_eq_true, decide_eq_true_eq] at h
    cases hs : st.2 with
    | true => have := h4 hs; omega
    | false =>
      have := h3 hs
      rcases h with h | h
      · rw [hs] at h; cases h
      · omega
theorem StOk.mulT {st : St} {V : Int} (h : StOk st V) : StOk (mulT st) (V * 10) := by
  obtain ⟨h0, h1, h2, h3, h4⟩ := h
  unfold StOk Giv.mulT
  simp only
  refine ⟨by omega, by omega, by omega, fun h => ?_, fun h => ?_⟩
  · rw [Bool.or_eq_false_iff, decide_eq_false_iff_not] at h
    have := h3 h.1
    omega
  · rw [Bool.or_eq_true, decide_eq_true_eq] at h
    cases hs : st.2 with
    | true => have := h4 hs; omega
    | false =>
      have := h3 hs
      rcases h with h | h
      · rw [hs] at h; cases h
      · omega

/-- Digits with the greatest first, behind what was read. -/
def hv (acc : Int) : List Int → Int
  | [] => acc
  | c :: L => hv (acc * 10 + (c - 48)) L
/-- Digits as bytes. -/
def Db (L : List Int) : Prop := ∀ c, c ∈ L → 48 ≤ c ∧ c ≤ 57
theorem Db.tail {c : Int} {L : List Int} (h : Db (c :: L)) : Db L := fun x hx => h x (List.mem_cons_of_mem _ hx)
theorem Db.head {c : Int} {L : List Int} (h : Db (c :: L)) : 48 ≤ c ∧ c ≤ 57 := h c List.mem_cons_self
theorem Db.cons {c : Int} {L : List Int} (h : Db L) (h0 : 48 ≤ c) (h9 : c ≤ 57) : Db (c :: L) := fun x hx => by
  rcases List.mem_cons.1 hx with h1 | h1
  · rw [h1]; exact ⟨h0, h9⟩
  · exact h x h1
theorem dig_at {s : ByteArray} {p : Nat} {c : Int} {L : List Int} {M : List UInt8} (h : tl s p = ch (c :: L) ++ M) (hc : 48 ≤ c ∧ c ≤ 57) : isD s p = true ∧ dgt s p = c - 48 ∧ tl s (p + 1) = ch L ++ M := by
  obtain ⟨h1, h2, h3⟩ := tl_cons (c := UInt8.ofNat c.toNat) (M := ch L ++ M) h
  rw [u8_nat (by omega) (by omega)] at h2
  refine ⟨?_, by unfold dgt; rw [h2]; omega, h3⟩
  unfold isD
  rw [decide_eq_true h1, h2, decide_eq_true (by omega), decide_eq_true (by omega)]; rfl

theorem ahead_show (s : ByteArray) (M : List UInt8) (hM : ∀ c M', M = c :: M' → ¬ (48 ≤ c.toNat ∧ c.toNat ≤ 57)) : ∀ (L : List Int) (p : Nat) (V : Int) (st : St), Db L → tl s p = ch L ++ M → StOk st (V * 1000000) →
    ∃ st', Giv.ahead s p st = (p + L.length, st') ∧ StOk st' (hv V L * 1000000) := by
  intro L
  induction L with
  | nil =>
    intro p V st _ ht hst
    have hd := stop_isD (M := M) ht hM
    exact ⟨st, by rw [ahead_no hd]; rfl, hst⟩
  | cons c L ih =>
    intro p V st hL ht hst
    obtain ⟨h1, h2, h3⟩ := dig_at ht hL.head
    have hc := hL.head
    have hst' : StOk (addw (mulT st) (dgt s p * 1000000)) ((V * 10 + (c - 48)) * 1000000) := by
      have := hst.mulT.addw (x := dgt s p * 1000000) (by rw [h2]; omega)
      rw [h2] at this ⊢
      have e : V * 1000000 * 10 + (c - 48) * 1000000 = (V * 10 + (c - 48)) * 1000000 := by omega
      rw [e] at this
      exact this
    obtain ⟨st', i1, i2⟩ := ih (p + 1) _ _ hL.tail h3 hst'
    refine ⟨st', ?_, i2⟩
    rw [ahead_yes h1, i1, List.length_cons]
    congr 1
    omega

/-- The digits behind the point: what they add. -/
def fv : List Int → Int → Int
  | [], _ => 0
  | c :: L, w => (c - 48) * (w / 10) + fv L (w / 10)
theorem behind_show (s : ByteArray) (M : List UInt8) (hM : ∀ c M', M = c :: M' → ¬ (48 ≤ c.toNat ∧ c.toNat ≤ 57)) : ∀ (L : List Int) (p : Nat) (w V : Int) (st : St), 0 ≤ w → Db L → tl s p = ch L ++ M → StOk st V →
    ∃ st', behind s p w st = (p + L.length, st') ∧ StOk st' (V + fv L w) := by
  intro L
  induction L with
  | nil =>
    intro p w V st _ _ ht hst
    have hd := stop_isD (M := M) ht hM
    exact ⟨st, by rw [behind_no hd]; rfl, by simpa [fv] using hst⟩
  | cons c L ih =>
    intro p w V st hw hL ht hst
    obtain ⟨h1, h2, h3⟩ := dig_at ht hL.head
    have hc := hL.head
    have hw' : 0 ≤ w / 10 := by omega
    obtain ⟨st', i1, i2⟩ := ih (p + 1) (w / 10) _ _ hw' hL.tail h3 (hst.addw (x := dgt s p * (w / 10)) (by rw [h2]; exact Int.mul_nonneg (by omega) hw'))
    refine ⟨st', ?_, ?_⟩
    · rw [behind_yes h1, i1, List.length_cons]
      congr 1
      omega
    · rw [h2] at i2
      simp only [fv]
      rw [← Int.add_assoc]; exact i2

/-! ### the writer -/
theorem int_show : ∀ (n : Nat) (x : Int) (L : List Int), x.toNat ≤ n → 0 ≤ x → ∃ I, intGo x L = I ++ L ∧ I ≠ [] ∧ Db I ∧ hv 0 I = x := by
  have hv_snoc : ∀ (I : List Int) (acc c : Int), hv acc (I ++ [c]) = hv acc I * 10 + (c - 48) := by
    intro I
    induction I with
    | nil => intro acc c; rfl
    | cons d I ih => intro acc c; simp only [List.cons_append, hv]; exact ih _ c
  intro n
  induction n with
  | zero =>
    intro x L hn hx
    have : x = 0 := by omega
    subst this
    exact ⟨[48], by rw [intGo_end (by omega)]; rfl, by simp, fun c hc => by rw [List.mem_singleton.1 hc]; omega, rfl⟩
  | succ n ih =>
    intro x L hn hx
    by_cases h : x / 10 ≤ 0
    · refine ⟨[48 + x % 10], by rw [intGo_end h]; rfl, by simp, fun c hc => by rw [List.mem_singleton.1 hc]; omega, ?_⟩
      simp only [hv]; omega
    · obtain ⟨I, i1, i2, i3, i4⟩ := ih (x / 10) ((48 + x % 10) :: L) (by omega) (by omega)
      refine ⟨I ++ [48 + x % 10], by rw [intGo_go h, i1]; simp, by simp, fun c hc => ?_, ?_⟩
      · rcases List.mem_append.1 hc with hc | hc
        · exact i3 c hc
        · rw [List.mem_singleton.1 hc]; omega
      · rw [hv_snoc, i4]; omega

theorem int_len : ∀ (n : Nat) (x : Int) (L : List Int), x.toNat ≤ n → 0 ≤ x → (intGo x L).length ≤ L.length + n + 1 := by
  intro n
  induction n with
  | zero =>
    intro x L hn hx
    rw [intGo_end (by omega), List.length_cons]; omega
  | succ n ih =>
    intro x L hn hx
    by_cases h : x / 10 ≤ 0
    · rw [intGo_end h, List.length_cons]; omega
    · rw [intGo_go h]
      have := ih (x / 10) ((48 + x % 10) :: L) (by omega) (by omega)
      by_cases hn0 : n = 0
      · omega
      · have h2 : ∀ m, m + 1 = n → (intGo (x / 10) ((48 + x % 10) :: L)).length ≤ L.length + (n + 1) + 1 := fun m hm => by
          rw [List.length_cons] at this; omega
        exact h2 (n - 1) (by omega)

theorem frac_show : ∀ (j i : Nat) (n : Int) (L : List Int), i + j = 6 → 0 ≤ n → Db L → ∃ lo, n = (fracGo j n (decide (L ≠ [])) L).1 * pw j + lo ∧ 0 ≤ lo ∧ lo < pw j ∧ 0 ≤ (fracGo j n (decide (L ≠ [])) L).1 ∧ Db (fracGo j n (decide (L ≠ [])) L).2.2 ∧ fv (fracGo j n (decide (L ≠ [])) L).2.2 1000000 = lo * pw i + fv L (pw i) := by
  intro j
  induction j with
  | zero =>
    intro i n L hi hn hL
    have : i = 6 := by omega
    subst this
    have e6 : pw 6 = 1000000 := by decide
    exact ⟨0, by simp [fracGo, pw], by omega, by simp [pw], hn, hL, by rw [e6]; simp [fracGo]⟩
  | succ j ih =>
    intro i n L hi hn hL
    have hp10 : pw (i + 1) / 10 = pw i := by simp only [pw]; omega
    by_cases hc : L ≠ [] ∨ 0 < n % 10
    · have hh : fracGo (j + 1) n (decide (L ≠ [])) L = fracGo j (n / 10) (decide ((48 + n % 10) :: L ≠ [])) ((48 + n % 10) :: L) := by
        simp only [fracGo]
        rw [if_pos (by rcases hc with hc | hc; exact .inl (decide_eq_true hc); exact .inr hc)]
        simp
      obtain ⟨lo, i1, i2, i3, i4, i5, i6⟩ := ih (i + 1) (n / 10) ((48 + n % 10) :: L) (by omega) (by omega) (hL.cons (by omega) (by omega))
      rw [hh]
      generalize fracGo j (n / 10) (decide ((48 + n % 10) :: L ≠ [])) ((48 + n % 10) :: L) = r at *
      refine ⟨10 * lo + n % 10, ?_, by omega, by simp only [pw]; omega, i4, i5, ?_⟩
      · simp only [pw]
        rw [Int.mul_left_comm]
        omega
      · rw [i6]
        simp only [fv]
        rw [hp10]
        simp only [pw]
        have e1 : 48 + n % 10 - 48 = n % 10 := by omega
        rw [e1, Int.add_mul, Int.mul_left_comm lo 10, Int.mul_assoc 10, Int.add_assoc]
    · have hL0 : L = [] := Decidable.byContradiction fun h => hc (.inl h)
      have hd0 : ¬ 0 < n % 10 := fun h => hc (.inr h)
      subst hL0
      have hh : fracGo (j + 1) n (decide (([] : List Int) ≠ [])) [] = fracGo j (n / 10) (decide (([] : List Int) ≠ [])) [] := by
        simp only [fracGo]
        rw [if_neg (by rintro (h | h); simp at h; exact hd0 h)]
        simp
      obtain ⟨lo, i1, i2, i3, i4, i5, i6⟩ := ih (i + 1) (n / 10) [] (by omega) (by omega) hL
      rw [hh]
      generalize fracGo j (n / 10) (decide (([] : List Int) ≠ [])) [] = r at *
      refine ⟨10 * lo, ?_, by omega, by simp only [pw]; omega, i4, i5, ?_⟩
      · simp only [pw]
        rw [Int.mul_left_comm]
        omega
      · rw [i6]
        simp only [fv, pw]
        rw [Int.mul_left_comm lo 10, Int.mul_assoc 10]

/-- A number's text: its sign, the digits ahead of the point, those behind. -/
theorem show_parts (a : Int) (ha : In a) : ∃ I F, showL a = (if a < 0 then [45] else []) ++ (I ++ (if F ≠ [] then 46 :: F else [])) ∧ I ≠ [] ∧ Db I ∧ Db F ∧ absV a = hv 0 I * 1000000 + fv F 1000000 ∧ (showL a).length ≤ 20000000000000 := by
  obtain ⟨a0, a1⟩ := absV_in ha
  obtain ⟨lo, i1, i2, i3, i4, i5, i6⟩ := frac_show 6 0 (absV a) [] rfl a0 (fun c hc => by cases hc)
  obtain ⟨f1, f2⟩ := frac_flag 6 (absV a) []
  have ed : decide (([] : List Int) ≠ []) = false := by simp
  rw [ed] at i1 i4 i5 i6 f1 f2
  have e6 : pw 6 = 1000000 := by decide
  rw [e6] at i1 i3
  have e0 : lo * pw 0 + fv [] (pw 0) = lo := by simp [pw, fv]
  rw [e0] at i6
  have hsh : showL a = (if a < 0 then 45 :: intGo (fracGo 6 (absV a) false []).1 (if (fracGo 6 (absV a) false []).2.1 = true then 46 :: (fracGo 6 (absV a) false []).2.2 else (fracGo 6 (absV a) false []).2.2) else intGo (fracGo 6 (absV a) false []).1 (if (fracGo 6 (absV a) false []).2.1 = true then 46 :: (fracGo 6 (absV a) false []).2.2 else (fracGo 6 (absV a) false []).2.2)) := rfl
  rw [hsh]
  generalize fracGo 6 (absV a) false [] = r at *
  obtain ⟨x, b, F⟩ := r
  simp only at *
  obtain ⟨G, hG⟩ : ∃ G, G = (if b = true then 46 :: F else F) := ⟨_, rfl⟩
  have hG2 : G = if F ≠ [] then 46 :: F else [] := by
    rw [hG, f1]
    by_cases hF : F = []
    · subst hF; simp
    · simp [hF]
  have hGl : G.length ≤ 7 := by
    rw [hG2]; simp at f2
    split
    · rw [List.length_cons]; omega
    · simp
  obtain ⟨I, j1, j2, j3, j4⟩ := int_show x.toNat x G (Nat.le_refl _) i4
  have hlen := int_len 10000000000000 x G (by omega) i4
  rw [← hG]
  refine ⟨I, F, ?_, j2, j3, i5, by rw [i6, j4]; exact i1, ?_⟩
  · rw [j1, ← hG2]
    split <;> rfl
  · split
    · rw [List.length_cons]; omega
    · omega

/-- A number's text is read as the number, all of it, with blanks ahead and whatever stops it behind. -/
theorem parse_show (a : Int) (ha : In a) (T : ByteArray) (o : Nat) (M : List UInt8) (hM : Stop M) (hT : tl T o = ch (showL a) ++ M) (hsk : (∀ c M', ch (showL a) ++ M = c :: M' → c.toNat = 45 ∨ (48 ≤ c.toNat ∧ c.toNat ≤ 57)) → sk T 0 = o) :
    parseV T = (a, ((o + (showL a).length : Nat) : Int), 0) := by
  obtain ⟨I, F, p1, p2, p3, p4, p5, _⟩ := show_parts a ha
  obtain ⟨a0, a1⟩ := absV_in ha
  obtain ⟨c0, I', hI⟩ : ∃ c0 I', I = c0 :: I' := by
    cases I with
    | nil => exact absurd rfl p2
    | cons c I => exact ⟨c, I, rfl⟩
  have hc0 := p3 c0 (by rw [hI]; simp)
  have hso : sk T 0 = o := hsk (fun c M' h => by
    rw [p1] at h
    by_cases hn : a < 0
    · rw [if_pos hn] at h
      injection h with h1 h2
      left; rw [← h1]; rfl
    · rw [if_neg hn, hI] at h
      injection h with h1 h2
      right; rw [← h1, u8_nat (by omega) (by omega)]; omega)
  have hsgn : isMinus T o = decide (a < 0) ∧ isPlus T o = false ∧ tl T (if a < 0 then o + 1 else o) = ch I ++ (ch (if F ≠ [] then 46 :: F else []) ++ M) := by
    rw [p1] at hT
    by_cases hn : a < 0
    · rw [if_pos hn] at hT ⊢
      obtain ⟨h1, h2, h3⟩ := tl_cons (c := 45) (M := ch (I ++ (if F ≠ [] then 46 :: F else [])) ++ M) hT
      have h2 : by_ T o = 45 := h2
      rw [ch_append, List.append_assoc] at h3
      refine ⟨?_, ?_, h3⟩
      · rw [decide_eq_true hn]; unfold isMinus; rw [decide_eq_true h1, h2]; rfl
      · unfold isPlus; rw [h2]; simp
    · rw [if_neg hn] at hT ⊢
      rw [List.nil_append, ch_append, List.append_assoc] at hT
      refine ⟨?_, ?_, hT⟩
      · rw [decide_eq_false hn]
        rw [hI] at hT
        obtain ⟨h1, h2, h3⟩ := tl_cons (c := UInt8.ofNat c0.toNat) (M := ch I' ++ (ch (if F ≠ [] then 46 :: F else []) ++ M)) hT
        rw [u8_nat (by omega) (by omega)] at h2
        unfold isMinus; rw [h2, beq_eq_false_iff_ne.2 (by omega), Bool.and_false]
      · rw [hI] at hT
        obtain ⟨h1, h2, h3⟩ := tl_cons (c := UInt8.ofNat c0.toNat) (M := ch I' ++ (ch (if F ≠ [] then 46 :: F else []) ++ M)) hT
        rw [u8_nat (by omega) (by omega)] at h2
        unfold isPlus; rw [h2, beq_eq_false_iff_ne.2 (by omega), Bool.and_false]
  obtain ⟨s1, s2, s3⟩ := hsgn
  obtain ⟨f0, hf0⟩ : ∃ f0, f0 = if a < 0 then o + 1 else o := ⟨_, rfl⟩
  rw [← hf0] at s3
  have hfrom : from_ T = f0 := by
    unfold from_
    rw [hso, s1, s2, Bool.or_false, hf0]
    by_cases hn : a < 0
    · rw [if_pos (by simpa using hn), if_pos hn]
    · rw [if_neg (by simpa using hn), if_neg hn]
  have hlen : (showL a).length = (if a < 0 then 1 else 0) + (I.length + (if F ≠ [] then F.length + 1 else 0)) := by
    rw [p1, List.length_append, List.length_append]
    congr 1
    · split <;> rfl
    · congr 1
      split <;> simp
  have hnd : ∀ c M', ch (if F ≠ [] then 46 :: F else []) ++ M = c :: M' → ¬ (48 ≤ c.toNat ∧ c.toNat ≤ 57) := fun c M' h => by
    by_cases hF : F ≠ []
    · rw [if_pos hF] at h
      injection h with h1 h2
      rw [← h1]; decide
    · rw [if_neg hF] at h
      exact (hM c M' h).2
  obtain ⟨st, q1, q2⟩ := ahead_show T _ hnd I f0 0 (0, false) p3 s3 (by simp [StOk])
  have hIl : 0 < I.length := by rw [hI]; simp
  have tl_add : ∀ (L : List Int) (p : Nat) (N : List UInt8), tl T p = ch L ++ N → tl T (p + L.length) = N := fun L => by
    induction L with
    | nil => intro p N h; exact h
    | cons c L ih =>
      intro p N h
      have := ih (p + 1) N (tl_cons (c := UInt8.ofNat c.toNat) (M := ch L ++ N) h).2.2
      rw [List.length_cons, ← this]
      congr 1
      omega
  have s4 := tl_add I f0 _ s3
  have hfin : ∀ (st : St) (V : Int), StOk st V → V = absV a → st.2 = false ∧ sgn st.1 (isMinus T (sk T 0)) = (a, 0) := fun st V h hVa => by
    obtain ⟨h0, h1, h2, h3, h4⟩ := h
    cases hs : st.2 with
    | true => have := h4 hs; omega
    | false =>
      refine ⟨rfl, ?_⟩
      rw [h3 hs, hso, s1, hVa, sgn_bk _ _ a0]
      have e : (if decide (a < 0) = true then -absV a else absV a) = a := by
        unfold absV
        by_cases hn : a < 0
        · simp only [hn, decide_true, if_true]; omega
        · simp only [hn, decide_false, Bool.false_eq_true, if_false]
      rw [e]
      unfold bk
      exact if_pos ha
  unfold parseV digits
  simp only
  rw [hfrom, q1]
  simp only
  by_cases hF : F = []
  · have hFl : (if F ≠ [] then F.length + 1 else 0) = 0 := if_neg (by simp [hF])
    rw [if_neg (by simp [hF])] at s4
    rw [hFl] at hlen
    have hdot : isDot T (f0 + I.length) = false := stop_isDot s4 (fun c M' h => (hM c M' h).1)
    rw [hdot]
    simp only [Bool.false_and, Bool.false_eq_true, if_false]
    have hV : hv 0 I * 1000000 = absV a := by rw [p5, hF]; simp [fv]
    obtain ⟨z1, z2⟩ := hfin st _ q2 hV
    rw [if_neg (by omega), z1, if_neg (by simp), z2]
    congr 2
    rw [hlen, hf0]
    split <;> omega
  · have hFl : (if F ≠ [] then F.length + 1 else 0) = F.length + 1 := if_pos hF
    rw [if_pos hF] at s4
    rw [hFl] at hlen
    obtain ⟨h1, h2, h3⟩ := tl_cons (c := 46) (M := ch F ++ M) s4
    have h2 : by_ T (f0 + I.length) = 46 := h2
    have hdot : isDot T (f0 + I.length) = true := by unfold isDot; rw [decide_eq_true h1, h2]; rfl
    obtain ⟨st2, b1, b2⟩ := behind_show T M (fun c M' h => (hM c M' h).2) F (f0 + I.length + 1) 1000000 _ st (by omega) p4 h3 q2
    rw [hdot, decide_eq_true (show f0 + I.length ≠ f0 by omega)]
    simp only [Bool.true_or, Bool.and_self, if_true]
    rw [b1]
    simp only
    obtain ⟨z1, z2⟩ := hfin st2 _ b2 p5.symm
    rw [if_neg (by omega), z1, if_neg (by simp), z2]
    congr 2
    rw [hlen, hf0]
    split <;> omega

theorem sk_zero {T : ByteArray} {L : List UInt8} (p : Nat) (h : tl T p = L) (hs : ∀ c M', L = c :: M' → c.toNat = 45 ∨ (48 ≤ c.toNat ∧ c.toNat ≤ 57)) : sk T p = p := by
  refine sk_no ?_
  cases hL : L with
  | nil => rw [hL] at h; unfold isB; rw [decide_eq_false (by have := tl_nil h; omega)]; rfl
  | cons c M' =>
    rw [hL] at h
    obtain ⟨h1, h2, _⟩ := tl_cons h
    have := hs c M' hL
    unfold isB
    rw [h2, beq_eq_false_iff_ne.2 (by omega), beq_eq_false_iff_ne.2 (by omega), beq_eq_false_iff_ne.2 (by omega)]
    simp

theorem show_size (a : Int) : (showV a).size = (showL a).length := by
  unfold showV
  simp [ByteArray.size]
theorem parse_self (a : Int) (ha : In a) : parseV (showV a) = (a, ((showV a).size : Int), 0) := by
  have ht : tl (showV a) 0 = ch (showL a) ++ [] := by
    rw [List.append_nil]; rfl
  have h := parse_show a ha (showV a) 0 [] (fun c M' h => by cases h) ht (fun hs => sk_zero 0 ht hs)
  rw [Nat.zero_add] at h
  rw [h, show_size]
theorem parse_tab (a : Int) (ha : In a) (b : ByteArray) (hb : Stop b.data.toList) : parseV ((⟨#[9]⟩ : ByteArray) ++ showV a ++ b) = (a, ((showV a).size : Int) + 1, 0) := by
  have hd : ((⟨#[9]⟩ : ByteArray) ++ showV a ++ b).data.toList = 9 :: (ch (showL a) ++ b.data.toList) := by
    rw [ByteArray.data_append, ByteArray.data_append, Array.toList_append, Array.toList_append]; rfl
  have ht0 : tl ((⟨#[9]⟩ : ByteArray) ++ showV a ++ b) 0 = 9 :: (ch (showL a) ++ b.data.toList) := hd
  obtain ⟨h1, h2, h3⟩ := tl_cons ht0
  have h2 : by_ ((⟨#[9]⟩ : ByteArray) ++ showV a ++ b) 0 = 9 := h2
  have h := parse_show a ha _ 1 _ hb h3 (fun hs => by
    have hB : isB ((⟨#[9]⟩ : ByteArray) ++ showV a ++ b) 0 = true := by unfold isB; rw [decide_eq_true h1, h2]; rfl
    rw [sk_yes hB]
    exact sk_zero 1 h3 hs)
  rw [h, show_size]
  congr 2
  omega

end Go.Proofs.YtfejcghnbimedaaDoor.Shw
