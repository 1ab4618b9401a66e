/- The words of a text, and a text without blanks at both ends, in plain Lean (the Trim part out of chapter 03's text Cel). -/
import Derived.Test.YtjjdejjhbfcfkaaDoorPWrdx2
import Derived.Test.YtjjdejjhbfcfkaaDoorLive
set_option linter.unusedVariables false
set_option linter.unusedSimpArgs false
namespace Go.Proofs.YtjjdejjhbfcfkaaDoor.Wds
open Go.RowKit Go.Proofs.YtjjdejjhbfcfkaaDoor.PWrd Go.Proofs.YtjjdejjhbfcfkaaDoorW.PrintWords Go.Proofs.YtjjdejjhbfcfkaaDoorW.PrintLast Go.Proofs.YtjjdejjhbfcfkaaDoor.Giv
theorem wrap_in {x : Int} (h0 : -9223372036854775808 ≤ x) (h1 : x ≤ 9223372036854775807) : wrap64 x = x := by unfold wrap64; omega
theorem size_len (s : ByteArray) : s.data.toList.length = s.size := Array.length_toList
def by_ (s : ByteArray) (p : Nat) : Nat := (s.data.toList.getD p 0).toNat
theorem by_lt (s : ByteArray) (p : Nat) : by_ s p < 256 := UInt8.toNat_lt _
theorem by_get {s : ByteArray} {p : Nat} (h : p < s.size) : (s[p]'h).toNat = by_ s p := by
  have hz : s.data.toList.length = s.size := Array.length_toList
  unfold by_
  simp [List.getD, hz, h]
  rfl
def isD (s : ByteArray) (p : Nat) : Bool := decide (p < s.size) && decide (48 ≤ by_ s p) && decide (by_ s p ≤ 57)
theorem bt_by {s : ByteArray} {p : Nat} (h : p < s.size) : bt s (p : Int) = (by_ s p : Int) := by
  unfold bt
  rw [dif_pos (by simpa using h)]
  exact congrArg _ (by_get h)
/-- A text without blanks at both ends. -/
def trimV (s : ByteArray) : ByteArray := ⟨(Lib.trimS s.data.toList [32, 9, 10]).toArray⟩
theorem Trim_f (s : ByteArray) (h : s.size ≤ 9223372036854775807) : text_Trim.f s = some (trimV s) := by
  unfold text_Trim.f; rw [if_pos h]; rfl
theorem trimV_le (s : ByteArray) : (trimV s).size ≤ s.size := by
  have h1 : ∀ (p : UInt8 → Bool) (l : List UInt8), (l.dropWhile p).length ≤ l.length := fun p l => (List.dropWhile_sublist p).length_le
  have h2 : (Lib.trimS s.data.toList [32, 9, 10]).length ≤ s.data.toList.length := by
    unfold Lib.trimS Lib.trimLeftS Lib.trimRightS
    refine Nat.le_trans (h1 _ _) ?_
    rw [List.length_reverse]
    refine Nat.le_trans (h1 _ _) ?_
    rw [List.length_reverse]; exact Nat.le_refl _
  rw [size_len] at h2
  show (Lib.trimS s.data.toList [32, 9, 10]).toArray.size ≤ s.size
  rw [List.size_toArray]
  exact h2

/-! ### The reference's Trim -/
def pB (c : UInt8) : Bool := ([32, 9, 10] : List UInt8).contains c
def tL (l : List UInt8) : List UInt8 := l.dropWhile pB
def tR (l : List UInt8) : List UInt8 := (l.reverse.dropWhile pB).reverse
theorem trimV_eq (s : ByteArray) : trimV s = ⟨(tL (tR s.data.toList)).toArray⟩ := rfl
theorem tR_cons (x : UInt8) (l : List UInt8) : tR (x :: l) = if tR l = [] then (if pB x = true then [] else [x]) else x :: tR l := by
  unfold tR
  rw [List.reverse_cons, List.dropWhile_append]
  by_cases h : l.reverse.dropWhile pB = []
  · rw [h]
    simp only [List.isEmpty_nil, if_true, List.reverse_nil]
    by_cases hx : pB x = true
    · rw [if_pos hx]; simp [List.dropWhile, hx]
    · rw [if_neg hx]; simp [List.dropWhile, hx]
  · have h2 : (l.reverse.dropWhile pB).reverse ≠ [] := by simpa using h
    have h3 : (l.reverse.dropWhile pB).isEmpty = false := by simpa using h
    rw [h3, if_neg h2]
    simp
theorem tLR : ∀ l : List UInt8, tL (tR l) = tR (tL l)
  | [] => rfl
  | x :: l => by
    rw [tR_cons]
    have ih := tLR l
    by_cases hx : pB x = true
    · have e : tL (x :: l) = tL l := by unfold tL; rw [List.dropWhile_cons_of_pos hx]
      rw [e, ← ih]
      by_cases h : tR l = []
      · rw [if_pos h, if_pos hx, h]
      · rw [if_neg h]; unfold tL; rw [List.dropWhile_cons_of_pos hx]
    · have e : ∀ m : List UInt8, tL (x :: m) = x :: m := fun m => by unfold tL; rw [List.dropWhile_cons_of_neg hx]
      rw [e l, tR_cons]
      by_cases h : tR l = []
      · rw [if_pos h, if_neg hx, e]
      · rw [if_neg h, e]
theorem tR_snoc (l : List UInt8) (x : UInt8) : tR (l ++ [x]) = if pB x = true then tR l else l ++ [x] := by
  unfold tR
  rw [List.reverse_append, List.reverse_singleton, List.singleton_append]
  by_cases hx : pB x = true
  · rw [if_pos hx, List.dropWhile_cons_of_pos hx]
  · rw [if_neg hx, List.dropWhile_cons_of_neg hx, List.reverse_cons, List.reverse_reverse]

def B (l : List UInt8) : ByteArray := ⟨l.toArray⟩
theorem B_size (l : List UInt8) : (B l).size = l.length := by simp [B, ByteArray.size]
theorem B_of (s : ByteArray) : B s.data.toList = s := by unfold B; simp
theorem B_list (l : List UInt8) : (B l).data.toList = l := by simp [B]
theorem B_tail (c : UInt8) (l : List UInt8) : (B (c :: l)).extract 1 (B (c :: l)).size = B l := by
  apply ByteArray.ext
  apply Array.toList_inj.1
  rw [ByteArray.data_extract, Array.toList_extract, B_size]
  show List.extract (c :: l) 1 (c :: l).length = l
  simp [List.extract]
theorem B_init (l : List UInt8) (c : UInt8) : (B (l ++ [c])).extract 0 l.length = B l := by
  apply ByteArray.ext
  apply Array.toList_inj.1
  rw [ByteArray.data_extract, Array.toList_extract]
  show List.extract (l ++ [c]) 0 l.length = l
  simp [List.extract]
theorem blank_at (l : List UInt8) (p : Nat) (h : p < l.length) : aukletref02_Blank.f (bt (B l) (p : Int)) = some (pB (l.getD p 0)) := by
  rw [bt_by (s := B l) (p := p) (by rw [B_size]; exact h)]
  have e : by_ (B l) p = (l.getD p 0).toNat := by unfold by_; rw [B_list]
  rw [e]
  generalize l.getD p 0 = c
  have hc : ∀ n : Nat, n < 256 → (((c.toNat : Int) = (n : Int)) ↔ c = UInt8.ofNat n) := fun n hn => by
    constructor
    · intro h; apply UInt8.toNat_inj.1; rw [UInt8.toNat_ofNat']; omega
    · intro h; rw [h, UInt8.toNat_ofNat']; omega
  have h32 := hc 32 (by omega)
  have h9 := hc 9 (by omega)
  have h10 := hc 10 (by omega)
  unfold aukletref02_Blank.f pB
  by_cases a1 : (c.toNat : Int) = 32
  · rw [if_pos a1, h32.1 a1]; rfl
  · rw [if_neg a1]
    by_cases a2 : (c.toNat : Int) = 9
    · rw [if_pos a2, h9.1 a2]; rfl
    · rw [if_neg a2]
      congr 1
      have b1 : c ≠ 32 := fun h => a1 (h32.2 h)
      have b2 : c ≠ 9 := fun h => a2 (h9.2 h)
      have e3 : ((c.toNat : Int) == 10) = (c == 10) := by
        rw [Bool.eq_iff_iff, beq_iff_eq, beq_iff_eq]; exact h10
      rw [e3]
      simp only [List.contains, List.elem, beq_eq_false_iff_ne.2 b1, beq_eq_false_iff_ne.2 b2]
      cases c == 10 <;> rfl
theorem l1_ev : ∀ (n : Nat) (l : List UInt8), l.length = n → n ≤ 2000000 → Ev (fun k => aukletref02_Trim.l1 k (B l)) (B (tR l)) := by
  intro n
  induction n with
  | zero =>
    intro l hl _
    obtain rfl : l = [] := List.length_eq_zero_iff.1 hl
    refine ⟨1, fun k hk => ?_⟩
    obtain ⟨j, rfl⟩ : ∃ j, k = j + 1 := ⟨k - 1, by omega⟩
    simp only [aukletref02_Trim.l1]
    rw [if_neg (by rw [B_size]; simp)]; rfl
  | succ n ih =>
    intro l hl hn
    obtain ⟨m, c, rfl⟩ : ∃ m c, l = m ++ [c] := ⟨l.dropLast, l.getLast (by intro h; rw [h] at hl; simp at hl), (List.dropLast_concat_getLast _).symm⟩
    have hm : m.length = n := by simpa using hl
    have hs : (B (m ++ [c])).size = n + 1 := by rw [B_size]; simpa using hl
    have hw : wrap64 (((B (m ++ [c])).size : Int) - 1) = (n : Int) := by rw [wrap_in (by omega) (by omega)]; omega
    have hg : (m ++ [c]).getD n 0 = c := by rw [List.getD_eq_getElem?_getD, List.getElem?_append_right (by omega), hm]; simp
    have hb := blank_at (m ++ [c]) n (by simp; omega)
    rw [hg] at hb
    by_cases hc : pB c = true
    · refine Ev.step (f := fun k => aukletref02_Trim.l1 k (B m)) (fun k => ?_) ?_
      · simp only [aukletref02_Trim.l1]
        rw [hw, if_pos (by omega), if_pos (by omega), if_pos (by omega), hb, hc]
        simp only [Option.bind_some, if_true]
        rw [if_pos (by omega)]
        have e : (B (m ++ [c])).extract 0 ((n : Int)).toNat = B m := by rw [Int.toNat_natCast, ← hm]; exact B_init m c
        rw [e]
      · have := ih m hm (by omega)
        rw [tR_snoc, if_pos hc]
        exact this
    · refine Ev.step (f := fun k => some (B (m ++ [c]))) (fun k => ?_) ?_
      · simp only [aukletref02_Trim.l1]
        rw [hw, if_pos (by omega), if_pos (by omega), if_pos (by omega), hb]
        simp only [Option.bind_some]
        rw [if_neg hc]
      · rw [tR_snoc, if_neg hc]; exact Ev.now _
theorem l0_ev : ∀ l : List UInt8, l.length ≤ 2000000 → Ev (fun k => aukletref02_Trim.l0 k (B l)) (B (tR (tL l)))
  | [], _ => by
    refine Ev.step (f := fun k => aukletref02_Trim.j1 k (B [])) (fun k => ?_) ?_
    · simp only [aukletref02_Trim.l0]
      rw [if_neg (by rw [B_size]; simp)]
    · refine Ev.step (f := fun k => aukletref02_Trim.l1 k (B [])) (fun k => ?_) (l1_ev 0 [] rfl (by omega))
      simp only [aukletref02_Trim.j1]
  | c :: l, h => by
    have hs : (B (c :: l)).size = l.length + 1 := by rw [B_size]; rfl
    have hl : l.length + 1 ≤ 2000000 := h
    have hb := blank_at (c :: l) 0 (by simp)
    by_cases hc : pB c = true
    · refine Ev.step (f := fun k => aukletref02_Trim.l0 k (B l)) (fun k => ?_) ?_
      · simp only [aukletref02_Trim.l0]
        rw [if_pos (by omega), if_pos (by omega)]
        have hb2 : aukletref02_Blank.f (bt (B (c :: l)) 0) = some (pB c) := hb
        rw [hb2, hc]
        simp only [Option.bind_some, if_true]
        rw [if_pos (by omega), B_tail]
      · have := l0_ev l (by omega)
        unfold tL
        rw [List.dropWhile_cons_of_pos hc]
        exact this
    · refine Ev.step (f := fun k => aukletref02_Trim.j1 k (B (c :: l))) (fun k => ?_) ?_
      · simp only [aukletref02_Trim.l0]
        rw [if_pos (by omega), if_pos (by omega)]
        have hb2 : aukletref02_Blank.f (bt (B (c :: l)) 0) = some (pB c) := hb
        rw [hb2]
        simp only [Option.bind_some]
        rw [if_neg hc]
      · unfold tL
        rw [List.dropWhile_cons_of_neg hc]
        refine Ev.step (f := fun k => aukletref02_Trim.l1 k (B (c :: l))) (fun k => ?_) (l1_ev (l.length + 1) (c :: l) rfl (by omega))
        simp only [aukletref02_Trim.j1]
theorem refTrim (s : ByteArray) (h : s.size ≤ 2000000) : Ev (fun k => aukletref02_Trim.f k s) (trimV s) := by
  have := l0_ev s.data.toList (by rw [size_len]; exact h)
  rw [← tLR, B_of] at this
  exact this

/-! ### Words -/
def bl (n : Nat) : Bool := n == 32 || n == 9 || n == 10
theorem pW_eq (x : Nat) : pW x = bl x := by
  by_cases h : x < 128
  · have hall : ∀ y : Fin 128, pW y.val = bl y.val := by decide +kernel
    exact hall ⟨x, h⟩
  · unfold pW bl
    rw [decide_eq_false h, beq_eq_false_iff_ne.2 (by omega), beq_eq_false_iff_ne.2 (by omega), beq_eq_false_iff_ne.2 (by omega)]; rfl
theorem get_by (s : ByteArray) (i : Nat) : (s.get! i).toNat = by_ s i := by
  unfold by_
  congr 1
  by_cases h : i < s.data.toList.length
  · rw [List.getD_eq_getElem?_getD, List.getElem?_eq_getElem h]
    have h2 : i < s.data.size := by simpa using h
    show s.data[i]! = _
    rw [getElem!_pos s.data i h2]
    simp
  · rw [List.getD_eq_getElem?_getD, List.getElem?_eq_none (by omega)]
    have h2 : ¬ i < s.data.size := by simpa using h
    show s.data[i]! = _
    rw [getElem!_neg s.data i h2]; rfl
theorem dec_cases (s : ByteArray) (pos : Nat) (h : pos < s.size) :
    (by_ s pos < 128 ∧ Utf8.decode s pos = (by_ s pos, 1)) ∨
    (128 ≤ (Utf8.decode s pos).1 ∧ 1 ≤ (Utf8.decode s pos).2 ∧ pos + (Utf8.decode s pos).2 ≤ s.size ∧ ∀ j, j < (Utf8.decode s pos).2 → bl (by_ s (pos + j)) = false) := by
  have hb : ∀ n : Nat, 128 ≤ n → bl n = false := fun n hn => by
    unfold bl
    rw [beq_eq_false_iff_ne.2 (by omega), beq_eq_false_iff_ne.2 (by omega), beq_eq_false_iff_ne.2 (by omega)]; rfl
  rw [Lib.decode_at, get_by, get_by, get_by, get_by]
  have l0 := by_lt s pos
  have l1 := by_lt s (pos + 1)
  have l2 := by_lt s (pos + 2)
  have l3 := by_lt s (pos + 3)
  have key : ∀ (b0 b1 b2 b3 n : Nat), b0 = by_ s pos → b1 = by_ s (pos + 1) → b2 = by_ s (pos + 2) → b3 = by_ s (pos + 3) → n = s.size - pos → b0 < 256 → b1 < 256 → b2 < 256 → b3 < 256 →
      (b0 < 128 ∧ Lib.decodeN n b0 b1 b2 b3 = (b0, 1)) ∨ (128 ≤ (Lib.decodeN n b0 b1 b2 b3).1 ∧ 1 ≤ (Lib.decodeN n b0 b1 b2 b3).2 ∧ (Lib.decodeN n b0 b1 b2 b3).2 ≤ n ∧ 128 ≤ b0 ∧ (1 < (Lib.decodeN n b0 b1 b2 b3).2 → 128 ≤ b1) ∧ (2 < (Lib.decodeN n b0 b1 b2 b3).2 → 128 ≤ b2) ∧ (3 < (Lib.decodeN n b0 b1 b2 b3).2 → 128 ≤ b3) ∧ (Lib.decodeN n b0 b1 b2 b3).2 ≤ 4) := by
    intro b0 b1 b2 b3 n _ _ _ _ hn q0 q1 q2 q3
    have hn1 : 1 ≤ n := by omega
    by_cases h0 : b0 < 128
    · left; exact ⟨h0, by unfold Lib.decodeN; rw [if_pos h0]⟩
    · right
      unfold Lib.decodeN
      rw [if_neg h0]
      repeat' split
      all_goals (simp only; omega)
  rcases key _ _ _ _ _ rfl rfl rfl rfl rfl l0 l1 l2 l3 with k | ⟨k1, k2, k3, k4, k5, k6, k7, k8⟩
  · exact .inl k
  · right
    refine ⟨k1, k2, by omega, fun j hj => ?_⟩
    generalize (Lib.decodeN (s.size - pos) (by_ s pos) (by_ s (pos + 1)) (by_ s (pos + 2)) (by_ s (pos + 3))).2 = m at *
    have hj4 : j = 0 ∨ j = 1 ∨ j = 2 ∨ j = 3 := by omega
    rcases hj4 with rfl | rfl | rfl | rfl
    · exact hb _ k4
    · exact hb _ (k5 hj)
    · exact hb _ (k6 hj)
    · exact hb _ (k7 hj)

def ext (s : ByteArray) (x : Nat × Nat) : ByteArray := s.extract x.1 x.2
def addS (acc : List (Nat × Nat)) (st : Option Nat) (i : Nat) : List (Nat × Nat) :=
  match st with
  | some a => acc ++ [(a, i)]
  | none => acc
def fr : Option Nat → Int
  | none => -1
  | some a => (a : Int)
theorem blank_bl (s : ByteArray) (i : Nat) (h : i < s.size) : aukletref02_Blank.f (bt s (i : Int)) = some (bl (by_ s i)) := by
  rw [bt_by h]
  unfold aukletref02_Blank.f bl
  by_cases h1 : by_ s i = 32
  · rw [if_pos (by omega), h1]; rfl
  · rw [if_neg (by omega), beq_eq_false_iff_ne.2 h1]
    by_cases h2 : by_ s i = 9
    · rw [if_pos (by omega), h2]; rfl
    · rw [if_neg (by omega), beq_eq_false_iff_ne.2 h2]
      congr 1
      rw [Bool.eq_iff_iff, beq_iff_eq, Bool.false_or, Bool.false_or, beq_iff_eq]
      omega
section
variable (s : ByteArray) (hs : s.size ≤ 1048576)
theorem wr1 {i : Nat} (hs : s.size ≤ 1048576) (hi : i ≤ s.size) : wrap64 ((i : Int) + 1) = ((i + 1 : Nat) : Int) := by rw [wrap_in (by omega) (by omega)]; omega
/-- One place, no blank. -/
theorem step_no (hs : s.size ≤ 1048576) (i : Nat) (hi : i < s.size) (hb : bl (by_ s i) = false) (st : Option Nat) (out : List ByteArray) (k : Nat) :
    aukletref02_Words.l0 (k + 2) s out (fr st) (i : Int) = aukletref02_Words.l0 k s out (fr (some (st.getD i))) ((i + 1 : Nat) : Int) := by
  simp only [aukletref02_Words.l0]
  rw [if_pos (by omega), if_neg (by omega), if_pos (by omega), if_pos (by omega), blank_bl s i hi, hb]
  simp only [Option.bind_some, aukletref02_Words.j1]
  rw [if_neg (by simp), wr1 s hs (by omega)]
  cases st with
  | none => rw [if_pos (show fr none < 0 by decide)]; rfl
  | some a => rw [if_neg (show ¬ fr (some a) < 0 by show ¬ (a : Int) < 0; omega)]; rfl
/-- One place, a blank. -/
theorem step_yes (hs : s.size ≤ 1048576) (i : Nat) (hi : i < s.size) (hb : bl (by_ s i) = true) (st : Option Nat) (hst : ∀ a, st = some a → a ≤ i) (acc : List (Nat × Nat)) (ha : acc.length ≤ i) (k : Nat) :
    aukletref02_Words.l0 (k + 2) s (acc.map (ext s)) (fr st) (i : Int) = aukletref02_Words.l0 k s ((addS acc st i).map (ext s)) (fr none) ((i + 1 : Nat) : Int) := by
  simp only [aukletref02_Words.l0]
  rw [if_pos (by omega), if_neg (by omega), if_pos (by omega), if_pos (by omega), blank_bl s i hi, hb]
  simp only [Option.bind_some, aukletref02_Words.j1]
  rw [if_pos trivial, wr1 s hs (by omega)]
  cases st with
  | none => rw [if_neg (show ¬ fr none ≥ 0 by decide)]; rfl
  | some a =>
    have h2 := hst a rfl
    rw [if_pos (show fr (some a) ≥ 0 by show (a : Int) ≥ 0; omega), if_pos (show 0 ≤ fr (some a) by show 0 ≤ (a : Int); omega), if_pos (show fr (some a) ≤ (i : Int) by show (a : Int) ≤ (i : Int); omega), if_pos (by omega), if_pos (by rw [List.length_map]; omega)]
    simp only [addS, List.map_append, List.map_cons, List.map_nil]
    rfl
theorem at_end (hs : s.size ≤ 1048576) (st : Option Nat) (hst : ∀ a, st = some a → a ≤ s.size) (acc : List (Nat × Nat)) (ha : acc.length ≤ s.size) :
    Ev (fun k => aukletref02_Words.l0 k s (acc.map (ext s)) (fr st) (s.size : Int)) ((Lib.closeSpans s (acc, st)).map (ext s)) := by
  refine ⟨3, fun k hk => ?_⟩
  obtain ⟨j, rfl⟩ : ∃ j, k = j + 3 := ⟨k - 3, by omega⟩
  have fin : ∀ out : List ByteArray, aukletref02_Words.l0 (j + 1) s out (-1) ((s.size + 1 : Nat) : Int) = some out := fun out => by
    simp only [aukletref02_Words.l0]
    rw [if_neg (by omega)]
  simp only [aukletref02_Words.l0]
  rw [if_pos (by omega), if_pos trivial]
  simp only [aukletref02_Words.j1]
  rw [if_pos trivial, wr1 s hs (by omega)]
  cases st with
  | none => rw [if_neg (show ¬ fr none ≥ 0 by decide)]; exact fin _
  | some a =>
    have h2 := hst a rfl
    rw [if_pos (show fr (some a) ≥ 0 by show (a : Int) ≥ 0; omega), if_pos (show 0 ≤ fr (some a) by show 0 ≤ (a : Int); omega), if_pos (show fr (some a) ≤ (s.size : Int) by show (a : Int) ≤ (s.size : Int); omega), if_pos (by omega), if_pos (by rw [List.length_map]; omega)]
    have e : (Lib.closeSpans s (acc, some a)).map (ext s) = acc.map (ext s) ++ [s.extract a s.size] := by
      unfold Lib.closeSpans
      simp only [List.map_append, List.map_cons, List.map_nil]; rfl
    rw [e]
    exact fin _
/-- Many places without a blank. -/
theorem skip (hs : s.size ≤ 1048576) (out : List ByteArray) (R : List ByteArray) : ∀ (m i : Nat) (st : Option Nat), i + m ≤ s.size → (∀ j, j < m → bl (by_ s (i + j)) = false) →
    Ev (fun k => aukletref02_Words.l0 k s out (fr (if m = 0 then st else some (st.getD i))) ((i + m : Nat) : Int)) R → Ev (fun k => aukletref02_Words.l0 k s out (fr st) (i : Int)) R := by
  intro m
  induction m with
  | zero => intro i st _ _ h; rw [if_pos rfl] at h; exact h
  | succ m ih =>
    intro i st hi hb h
    rw [if_neg (by omega)] at h
    have h2 : Ev (fun k => aukletref02_Words.l0 k s out (fr (some (st.getD i))) ((i + 1 : Nat) : Int)) R := by
      refine ih (i + 1) (some (st.getD i)) (by omega) (fun j hj => ?_) ?_
      · have := hb (j + 1) (by omega)
        rw [show i + 1 + j = i + (j + 1) by omega]; exact this
      · have e : (if m = 0 then some (st.getD i) else some ((some (st.getD i)).getD (i + 1))) = some (st.getD i) := by split <;> rfl
        rw [e, show i + 1 + m = i + (m + 1) by omega]; exact h
    obtain ⟨K, hK⟩ := h2
    refine ⟨K + 2, fun k hk => ?_⟩
    obtain ⟨j, rfl⟩ : ∃ j, k = j + 2 := ⟨k - 2, by omega⟩
    show aukletref02_Words.l0 (j + 2) s out (fr st) (i : Int) = _
    have hb0 := hb 0 (by omega)
    rw [Nat.add_zero] at hb0
    rw [step_no s hs i (by omega) hb0]
    exact hK j (by omega)
theorem words_loop (hs : s.size ≤ 1048576) : ∀ (n f pos : Nat) (st : Option Nat) (acc : List (Nat × Nat)), s.size - pos ≤ n → s.size - pos ≤ f → pos ≤ s.size → (∀ a, st = some a → a ≤ pos) → acc.length ≤ pos →
    Ev (fun k => aukletref02_Words.l0 k s (acc.map (ext s)) (fr st) (pos : Int)) ((Lib.closeSpans s (Lib.spansFromP pW s f pos st acc)).map (ext s)) := by
  intro n
  induction n with
  | zero =>
    intro f pos st acc h1 h2 h3 h4 h5
    obtain rfl : pos = s.size := by omega
    rw [Lib.spansFromP_end _ _ _ _ _ _ (by omega)]
    exact at_end s hs st h4 acc h5
  | succ n ih =>
    intro f pos st acc h1 h2 h3 h4 h5
    by_cases hp : pos < s.size
    · obtain ⟨g, rfl⟩ : ∃ g, f = g + 1 := ⟨f - 1, by omega⟩
      have goes : ∀ (st2 : Option Nat) (acc2 : List (Nat × Nat)), (∀ a, st2 = some a → a ≤ pos + 1) → acc2.length ≤ pos + 1 → (∀ k, aukletref02_Words.l0 (k + 2) s (acc.map (ext s)) (fr st) (pos : Int) = aukletref02_Words.l0 k s (acc2.map (ext s)) (fr st2) ((pos + 1 : Nat) : Int)) →
          Ev (fun k => aukletref02_Words.l0 k s (acc.map (ext s)) (fr st) (pos : Int)) ((Lib.closeSpans s (Lib.spansFromP pW s g (pos + 1) st2 acc2)).map (ext s)) := fun st2 acc2 q1 q2 hk => by
        obtain ⟨K, hK⟩ := ih g (pos + 1) st2 acc2 (by omega) (by omega) (by omega) q1 q2
        refine ⟨K + 2, fun k hk2 => ?_⟩
        obtain ⟨j, rfl⟩ : ∃ j, k = j + 2 := ⟨k - 2, by omega⟩
        show aukletref02_Words.l0 (j + 2) s (acc.map (ext s)) (fr st) (pos : Int) = _
        rw [hk]
        exact hK j (by omega)
      rcases dec_cases s pos hp with ⟨d1, d2⟩ | ⟨d1, d2, d3, d4⟩
      · have e : Lib.spansFromP pW s (g + 1) pos st acc = if bl (by_ s pos) = true then Lib.spansFromP pW s g (pos + 1) none (addS acc st pos) else Lib.spansFromP pW s g (pos + 1) (some (st.getD pos)) acc := by
          simp only [Lib.spansFromP]
          rw [if_pos hp, d2, pW_eq]
          cases bl (by_ s pos) with
          | true => cases st <;> rfl
          | false => cases st <;> rfl
        rw [e]
        cases hb : bl (by_ s pos) with
        | true =>
          rw [if_pos rfl]
          refine goes none _ (fun a h => by cases h) ?_ (step_yes s hs pos hp hb st h4 acc h5)
          cases st with
          | none => show acc.length ≤ _; omega
          | some a => show (acc ++ [(a, pos)]).length ≤ _; rw [List.length_append]; simp only [List.length_cons, List.length_nil]; omega
        | false =>
          rw [if_neg (by simp)]
          refine goes (some (st.getD pos)) acc (fun a h => ?_) (by omega) (step_no s hs pos hp hb st _)
          cases st with
          | none => cases h; show pos ≤ pos + 1; omega
          | some a2 => have := h4 a2 rfl; cases h; show a2 ≤ pos + 1; omega
      · have e : Lib.spansFromP pW s (g + 1) pos st acc = Lib.spansFromP pW s g (pos + (Utf8.decode s pos).2) (some (st.getD pos)) acc := by
          have hp2 : pW (Utf8.decode s pos).1 = false := by
            unfold pW; rw [decide_eq_false (by omega)]; rfl
          simp only [Lib.spansFromP]
          rw [if_pos hp, hp2]
          cases st <;> rfl
        rw [e]
        refine skip s hs _ _ (Utf8.decode s pos).2 pos st d3 d4 ?_
        rw [if_neg (by omega)]
        refine ih g _ _ acc (by omega) (by omega) d3 (fun a h => ?_) (by omega)
        cases st with
        | none => cases h; show pos ≤ _; omega
        | some a2 => have := h4 a2 rfl; cases h; show a2 ≤ _; omega
    · obtain rfl : pos = s.size := by omega
      rw [Lib.spansFromP_end _ _ _ _ _ _ (by omega)]
      exact at_end s hs st h4 acc h5
theorem refWords (hs : s.size ≤ 1048576) : Ev (fun k => aukletref02_Words.f k s) (Lib.goFieldsP pW s) :=
  words_loop s hs s.size s.size 0 none [] (by omega) (by omega) (by omega) (fun a h => by cases h) (Nat.le_refl _)
end
theorem spans_len (s : ByteArray) : ∀ (f pos : Nat) (st : Option Nat) (acc : List (Nat × Nat)), (Lib.spansFromP pW s f pos st acc).1.length ≤ acc.length + f := by
  intro f
  induction f with
  | zero => intro pos st acc; exact Nat.le_refl _
  | succ f ih =>
    intro pos st acc
    simp only [Lib.spansFromP]
    split
    · split
      · cases st with
        | some a => have := ih (pos + (Utf8.decode s pos).2) none (acc ++ [(a, pos)]); rw [List.length_append] at this; simp only [List.length_cons, List.length_nil] at this; exact Nat.le_trans this (by omega)
        | none => have := ih (pos + (Utf8.decode s pos).2) none acc; exact Nat.le_trans this (by omega)
      · cases st with
        | some a => have := ih (pos + (Utf8.decode s pos).2) (some a) acc; exact Nat.le_trans this (by omega)
        | none => have := ih (pos + (Utf8.decode s pos).2) (some pos) acc; exact Nat.le_trans this (by omega)
    · show acc.length ≤ _; omega
theorem words_len (s : ByteArray) : (Lib.goFieldsP pW s).length ≤ s.size + 1 := by
  unfold Lib.goFieldsP Lib.spansOfP Lib.closeSpans
  have := spans_len s s.size 0 none []
  rw [List.length_map]
  simp only [List.length_nil, Nat.zero_add] at this
  split
  · rw [List.length_append]; simp only [List.length_cons, List.length_nil]; omega
  · omega
theorem same_loop (l : List ByteArray) (hl : l.length ≤ 10000000) : ∀ (n i : Nat), l.length - i ≤ n → Ev (fun k => aukletref02_Same.l0 k l l (i : Int)) true := by
  intro n
  have fin : ∀ i : Nat, l.length ≤ i → Ev (fun k => aukletref02_Same.l0 k l l (i : Int)) true := fun i hi => by
    refine Ev.step (f := fun k => some true) (fun k => ?_) (Ev.now _)
    simp only [aukletref02_Same.l0]
    rw [if_neg (by omega)]
  induction n with
  | zero => intro i hi; exact fin i (by omega)
  | succ n ih =>
    intro i hi
    by_cases h : i < l.length
    · refine Ev.step (f := fun k => aukletref02_Same.l0 k l l ((i + 1 : Nat) : Int)) (fun k => ?_) (ih (i + 1) (by omega))
      simp only [aukletref02_Same.l0]
      rw [if_pos (by omega), if_pos (by omega), if_pos (by omega), if_pos trivial, (wrap_in (x := (i : Int) + 1) (by omega) (by omega)).trans (show (i : Int) + 1 = ((i + 1 : Nat) : Int) by omega)]
    · exact fin i (by omega)
theorem same_self (l : List ByteArray) (hl : l.length ≤ 10000000) : Ev (fun k => aukletref02_Same.f k l l) true := by
  unfold aukletref02_Same.f
  simp only [if_true]
  exact same_loop l hl l.length 0 (by omega)
theorem lives_f : aukletlaw02_lives.f = some true := by
  unfold aukletlaw02_lives.f text_Len.f
  rw [live_len, live_sub, live_index]
  decide +kernel
end Go.Proofs.YtjjdejjhbfcfkaaDoor.Wds
namespace Go.Proofs.YtjjdejjhbfcfkaaDoor.Pure
open Go.RowKit Go.Proofs.YtjjdejjhbfcfkaaDoor.PWrd Go.Proofs.YtjjdejjhbfcfkaaDoorW.PrintWords Go.Proofs.YtjjdejjhbfcfkaaDoorW.PrintLast Go.Proofs.YtjjdejjhbfcfkaaDoor.Giv Go.Proofs.YtjjdejjhbfcfkaaDoor.Wds
theorem TextWordsUpto (s : ByteArray) (hs : s.size ≤ 1048576) : ∃ k, aukletlaw02_TextWords.f k s = some true := by
  suffices h : Ev (fun k => aukletlaw02_TextWords.f k s) true from h.rounds
  have hw : text_Words.f s = some (Lib.goFieldsP pW s) := by unfold text_Words.f; rw [if_pos (by omega)]
  unfold aukletlaw02_TextWords.f
  simp only [hw, Option.bind_some]
  refine Ev.bind (refWords s hs) (Ev.bind (same_self _ (by have := words_len s; omega)) ?_)
  simp only [if_true, Trim_f s (by omega), Option.bind_some]
  refine Ev.bind (refTrim s (by omega)) ?_
  simp only [if_true, lives_f, Option.bind_some]
  exact Ev.now _
end Go.Proofs.YtjjdejjhbfcfkaaDoor.Pure
