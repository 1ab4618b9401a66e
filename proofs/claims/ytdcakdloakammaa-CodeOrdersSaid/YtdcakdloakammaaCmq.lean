/- Cells held against each other, and what is a cell, in plain Lean (out of chapter 03's texts, by mk15.py). -/
import Derived.Test.YtdcakdloakammaaPrs
import Derived.Test.YtdcakdloakammaaCanB
import Derived.Test.YtdcakdloakammaaPCodx4
import Derived.Lib.SlTrimSet
set_option linter.unusedVariables false
set_option linter.unusedSimpArgs false
namespace Go.Proofs.Ytdcakdloakammaa.Cel
open Go.RowKit Go.Proofs.Ytdcakdloakammaa.PCod Go.Proofs.YtdcakdloakammaaW.PrintWords Go.Proofs.YtdcakdloakammaaW.PrintLast
open Go.Proofs.Ytdcakdloakammaa.Dig Go.Proofs.Ytdcakdloakammaa.Div Go.Proofs.Ytdcakdloakammaa.Giv Go.Proofs.Ytdcakdloakammaa.Prs
open Go.Lib (compareBytes)
theorem size_len (s : ByteArray) : s.data.toList.length = s.size := Array.length_toList
/-- A text without blanks at both ends. -/
def trimV (s : ByteArray) : ByteArray := ⟨(Lib.trimS s.data.toList [32, 9, 10]).toArray⟩
theorem trimV_le (s : ByteArray) : (trimV s).size ≤ s.size := by
  have h1 : ∀ (p : UInt8 → Bool) (l : List UInt8), (l.dropWhile p).length ≤ l.length := fun p l => (List.dropWhile_sublist p).length_le
  have h2 : (Lib.trimS s.data.toList [32, 9, 10]).length ≤ s.data.toList.length := by
    unfold Lib.trimS Lib.trimLeftS Lib.trimRightS
    refine Nat.le_trans (h1 _ _) ?_
    rw [List.length_reverse]
    refine Nat.le_trans (h1 _ _) ?_
    rw [List.length_reverse]; exact Nat.le_refl _
  rw [size_len] at h2
  show (Lib.trimS s.data.toList [32, 9, 10]).toArray.size ≤ s.size
  rw [List.size_toArray]
  exact h2

/-- What a text that comes in is. -/
def inV (s : ByteArray) : Int × Int × ByteArray :=
  if (trimV s).toList ≠ ([] : List UInt8) ∧ (parseV (trimV s)).2.1 = ((trimV s).size : Int) ∧ (parseV (trimV s)).2.2 = 0 then (3, (parseV (trimV s)).1, s) else (2, 0, s)
/-! ### The reference's Trim -/
def pB (c : UInt8) : Bool := ([32, 9, 10] : List UInt8).contains c
def tL (l : List UInt8) : List UInt8 := l.dropWhile pB
def tR (l : List UInt8) : List UInt8 := (l.reverse.dropWhile pB).reverse
theorem trimV_eq (s : ByteArray) : trimV s = ⟨(tL (tR s.data.toList)).toArray⟩ := rfl
theorem tR_cons (x : UInt8) (l : List UInt8) : tR (x :: l) = if tR l = [] then (if pB x = true then [] else [x]) else x :: tR l := by
  unfold tR
  rw [List.reverse_cons, List.dropWhile_append]
  by_cases h : l.reverse.dropWhile pB = []
  · rw [h]
    simp only [List.isEmpty_nil, if_true, List.reverse_nil]
    by_cases hx : pB x = true
    · rw [if_pos hx]; simp [List.dropWhile, hx]
    · rw [if_neg hx]; simp [List.dropWhile, hx]
  · have h2 : (l.reverse.dropWhile pB).reverse ≠ [] := by simpa using h
    have h3 : (l.reverse.dropWhile pB).isEmpty = false := by simpa using h
    rw [h3, if_neg h2]
    simp
theorem tLR : ∀ l : List UInt8, tL (tR l) = tR (tL l)
  | [] => rfl
  | x :: l => by
    rw [tR_cons]
    have ih := tLR l
    by_cases hx : pB x = true
    · have e : tL (x :: l) = tL l := by unfold tL; rw [List.dropWhile_cons_of_pos hx]
      rw [e, ← ih]
      by_cases h : tR l = []
      · rw [if_pos h, if_pos hx, h]
      · rw [if_neg h]; unfold tL; rw [List.dropWhile_cons_of_pos hx]
    · have e : ∀ m : List UInt8, tL (x :: m) = x :: m := fun m => by unfold tL; rw [List.dropWhile_cons_of_neg hx]
      rw [e l, tR_cons]
      by_cases h : tR l = []
      · rw [if_pos h, if_neg hx, e]
      · rw [if_neg h, e]
theorem tR_snoc (l : List UInt8) (x : UInt8) : tR (l ++ [x]) = if pB x = true then tR l else l ++ [x] := by
  unfold tR
  rw [List.reverse_append, List.reverse_singleton, List.singleton_append]
  by_cases hx : pB x = true
  · rw [if_pos hx, List.dropWhile_cons_of_pos hx]
  · rw [if_neg hx, List.dropWhile_cons_of_neg hx, List.reverse_cons, List.reverse_reverse]

def B (l : List UInt8) : ByteArray := ⟨l.toArray⟩
theorem B_size (l : List UInt8) : (B l).size = l.length := by simp [B, ByteArray.size]
theorem B_of (s : ByteArray) : B s.data.toList = s := by unfold B; simp
theorem B_list (l : List UInt8) : (B l).data.toList = l := by simp [B]
theorem B_tail (c : UInt8) (l : List UInt8) : (B (c :: l)).extract 1 (B (c :: l)).size = B l := by
  apply ByteArray.ext
  apply Array.toList_inj.1
  rw [ByteArray.data_extract, Array.toList_extract, B_size]
  show List.extract (c :: l) 1 (c :: l).length = l
  simp [List.extract]
theorem B_init (l : List UInt8) (c : UInt8) : (B (l ++ [c])).extract 0 l.length = B l := by
  apply ByteArray.ext
  apply Array.toList_inj.1
  rw [ByteArray.data_extract, Array.toList_extract]
  show List.extract (l ++ [c]) 0 l.length = l
  simp [List.extract]
theorem blank_at (l : List UInt8) (p : Nat) (h : p < l.length) : aukletref02_Blank.f (bt (B l) (p : Int)) = some (pB (l.getD p 0)) := by
  rw [bt_by (s := B l) (p := p) (by rw [B_size]; exact h)]
  have e : by_ (B l) p = (l.getD p 0).toNat := by unfold by_; rw [B_list]
  rw [e]
  generalize l.getD p 0 = c
  have hc : ∀ n : Nat, n < 256 → (((c.toNat : Int) = (n : Int)) ↔ c = UInt8.ofNat n) := fun n hn => by
    constructor
    · intro h; apply UInt8.toNat_inj.1; rw [UInt8.toNat_ofNat']; omega
    · intro h; rw [h, UInt8.toNat_ofNat']; omega
  have h32 := hc 32 (by omega)
  have h9 := hc 9 (by omega)
  have h10 := hc 10 (by omega)
  unfold aukletref02_Blank.f pB
  by_cases a1 : (c.toNat : Int) = 32
  · rw [if_pos a1, h32.1 a1]; rfl
  · rw [if_neg a1]
    by_cases a2 : (c.toNat : Int) = 9
    · rw [if_pos a2, h9.1 a2]; rfl
    · rw [if_neg a2]
      congr 1
      have b1 : c ≠ 32 := fun h => a1 (h32.2 h)
      have b2 : c ≠ 9 := fun h => a2 (h9.2 h)
      have e3 : ((c.toNat : Int) == 10) = (c == 10) := by
        rw [Bool.eq_iff_iff, beq_iff_eq, beq_iff_eq]; exact h10
      rw [e3]
      simp only [List.contains, List.elem, beq_eq_false_iff_ne.2 b1, beq_eq_false_iff_ne.2 b2]
      cases c == 10 <;> rfl
theorem l1_ev : ∀ (n : Nat) (l : List UInt8), l.length = n → n ≤ 1000000 → Ev (fun k => aukletref02_Trim.l1 k (B l)) (B (tR l)) := by
  intro n
  induction n with
  | zero =>
    intro l hl _
    obtain rfl : l = [] := List.length_eq_zero_iff.1 hl
    refine ⟨1, fun k hk => ?_⟩
    obtain ⟨j, rfl⟩ : ∃ j, k = j + 1 := ⟨k - 1, by omega⟩
    simp only [aukletref02_Trim.l1]
    rw [if_neg (by rw [B_size]; simp)]; rfl
  | succ n ih =>
    intro l hl hn
    obtain ⟨m, c, rfl⟩ : ∃ m c, l = m ++ [c] := ⟨l.dropLast, l.getLast (by intro h; rw [h] at hl; simp at hl), (List.dropLast_concat_getLast _).symm⟩
    have hm : m.length = n := by simpa using hl
    have hs : (B (m ++ [c])).size = n + 1 := by rw [B_size]; simpa using hl
    have hw : wrap64 (((B (m ++ [c])).size : Int) - 1) = (n : Int) := by rw [wrap_in (by omega) (by omega)]; omega
    have hg : (m ++ [c]).getD n 0 = c := by rw [List.getD_eq_getElem?_getD, List.getElem?_append_right (by omega), hm]; simp
    have hb := blank_at (m ++ [c]) n (by simp; omega)
    rw [hg] at hb
    by_cases hc : pB c = true
    · refine Ev.step (f := fun k => aukletref02_Trim.l1 k (B m)) (fun k => ?_) ?_
      · simp only [aukletref02_Trim.l1]
        rw [hw, if_pos (by omega), if_pos (by omega), if_pos (by omega), hb, hc]
        simp only [Option.bind_some, if_true]
        rw [if_pos (by omega)]
        have e : (B (m ++ [c])).extract 0 ((n : Int)).toNat = B m := by rw [Int.toNat_natCast, ← hm]; exact B_init m c
        rw [e]
      · have := ih m hm (by omega)
        rw [tR_snoc, if_pos hc]
        exact this
    · refine Ev.step (f := fun k => some (B (m ++ [c]))) (fun k => ?_) ?_
      · simp only [aukletref02_Trim.l1]
        rw [hw, if_pos (by omega), if_pos (by omega), if_pos (by omega), hb]
        simp only [Option.bind_some]
        rw [if_neg hc]
      · rw [tR_snoc, if_neg hc]; exact Ev.now _
theorem l0_ev : ∀ l : List UInt8, l.length ≤ 1000000 → Ev (fun k => aukletref02_Trim.l0 k (B l)) (B (tR (tL l)))
  | [], _ => by
    refine Ev.step (f := fun k => aukletref02_Trim.j1 k (B [])) (fun k => ?_) ?_
    · simp only [aukletref02_Trim.l0]
      rw [if_neg (by rw [B_size]; simp)]
    · refine Ev.step (f := fun k => aukletref02_Trim.l1 k (B [])) (fun k => ?_) (l1_ev 0 [] rfl (by omega))
      simp only [aukletref02_Trim.j1]
  | c :: l, h => by
    have hs : (B (c :: l)).size = l.length + 1 := by rw [B_size]; rfl
    have hl : l.length + 1 ≤ 1000000 := h
    have hb := blank_at (c :: l) 0 (by simp)
    by_cases hc : pB c = true
    · refine Ev.step (f := fun k => aukletref02_Trim.l0 k (B l)) (fun k => ?_) ?_
      · simp only [aukletref02_Trim.l0]
        rw [if_pos (by omega), if_pos (by omega)]
        have hb2 : aukletref02_Blank.f (bt (B (c :: l)) 0) = some (pB c) := hb
        rw [hb2, hc]
        simp only [Option.bind_some, if_true]
        rw [if_pos (by omega), B_tail]
      · have := l0_ev l (by omega)
        unfold tL
        rw [List.dropWhile_cons_of_pos hc]
        exact this
    · refine Ev.step (f := fun k => aukletref02_Trim.j1 k (B (c :: l))) (fun k => ?_) ?_
      · simp only [aukletref02_Trim.l0]
        rw [if_pos (by omega), if_pos (by omega)]
        have hb2 : aukletref02_Blank.f (bt (B (c :: l)) 0) = some (pB c) := hb
        rw [hb2]
        simp only [Option.bind_some]
        rw [if_neg hc]
      · unfold tL
        rw [List.dropWhile_cons_of_neg hc]
        refine Ev.step (f := fun k => aukletref02_Trim.l1 k (B (c :: l))) (fun k => ?_) (l1_ev (l.length + 1) (c :: l) rfl (by omega))
        simp only [aukletref02_Trim.j1]
theorem refTrim (s : ByteArray) (h : s.size ≤ 1000000) : Ev (fun k => aukletref02_Trim.f k s) (trimV s) := by
  have := l0_ev s.data.toList (by rw [size_len]; exact h)
  rw [← tLR, B_of] at this
  exact this
theorem refInput (s : ByteArray) (h : s.size ≤ 300) : Ev (fun k => aukletref03_Input.f k s) (inV s) := by
  have hl := trimV_le s
  have hp := parse_ref (trimV s) (by omega)
  unfold aukletref03_Input.f
  refine Ev.bind (refTrim s (by omega)) (Ev.bind hp ?_)
  have hz : (trimV s).toList = ([] : List UInt8) ↔ (trimV s).size = 0 := by
    rw [ByteArray.toList_eq, ← size_len, List.length_eq_zero_iff]
  unfold inV
  by_cases h1 : (trimV s).toList = ([] : List UInt8)
  · rw [if_neg (by have := hz.1 h1; omega), if_neg (fun hc => hc.1 h1)]; exact Ev.now _
  · rw [if_pos (by have : (trimV s).size ≠ 0 := fun h => h1 (hz.2 h)
                   omega)]
    by_cases h2 : (parseV (trimV s)).2.1 = ((trimV s).size : Int)
    · rw [if_pos h2]
      by_cases h3 : (parseV (trimV s)).2.2 = 0
      · rw [if_pos h3, if_pos ⟨h1, h2, h3⟩]; exact Ev.now _
      · rw [if_neg h3, if_neg (fun hc => h3 hc.2.2)]; exact Ev.now _
    · rw [if_neg h2, if_neg (fun hc => h2 hc.2.1)]; exact Ev.now _

theorem cb_refl : ∀ a : List UInt8, compareBytes a a = 0
  | [] => rfl
  | x :: a => by
    have h : ¬ x < x := UInt8.lt_irrefl x
    unfold compareBytes
    rw [if_neg h, if_neg h]; exact cb_refl a
theorem cb_neg : ∀ a b : List UInt8, compareBytes b a = - compareBytes a b
  | [], [] => rfl
  | [], _ :: _ => rfl
  | _ :: _, [] => rfl
  | x :: a, y :: b => by
    unfold compareBytes
    by_cases h1 : x < y
    · have h2 : ¬ y < x := fun h => UInt8.lt_irrefl x (UInt8.lt_trans h1 h)
      rw [if_neg h2, if_pos h1, if_pos h1]; decide
    · by_cases h2 : y < x
      · rw [if_pos h2, if_neg h1, if_pos h2]
      · rw [if_neg h2, if_neg h1, if_neg h1, if_neg h2]; exact cb_neg a b
theorem cb_range : ∀ a b : List UInt8, compareBytes a b = -1 ∨ compareBytes a b = 0 ∨ compareBytes a b = 1
  | [], [] => .inr (.inl rfl)
  | [], _ :: _ => .inl rfl
  | _ :: _, [] => .inr (.inr rfl)
  | x :: a, y :: b => by
    unfold compareBytes
    by_cases h1 : x < y
    · rw [if_pos h1]; exact .inl rfl
    · rw [if_neg h1]
      by_cases h2 : y < x
      · rw [if_pos h2]; exact .inr (.inr rfl)
      · rw [if_neg h2]; exact cb_range a b
/-- A cell's text. -/
def strV (k n : Int) (s : ByteArray) : ByteArray := if k = 1 then showV n else if k = 2 then s else if k = 3 then s else (⟨#[]⟩ : ByteArray)
theorem str_f (k n : Int) (s : ByteArray) (hn : In n) : cell_str.f k n s = some (strV k n s) := by
  have hs : dec_Show.f n = some (showV n) := by unfold dec_Show.f; exact if_pos hn
  unfold cell_str.f strV
  rw [hs]
  split
  · rfl
  · split
    · rfl
    · split <;> rfl
/-- Two cells held against each other. -/
def numC (x y : Int) : Int := if x < y then -1 else if x > y then 1 else 0
def cmpV (k n : Int) (s : ByteArray) (k' n' : Int) (s' : ByteArray) : Int :=
  if k ≠ 2 ∧ k' ≠ 2 then numC n n' else compareBytes (strV k n s).data.toList (strV k' n' s').data.toList
theorem cmpC_ev (k n : Int) (s : ByteArray) (k' n' : Int) (s' : ByteArray) (hn : In n) (hn' : In n') : Ev (fun f => cell_Compare.f f k n s k' n' s') (cmpV k n s k' n' s') := by
  have hj : ∀ x, Ev (fun f => cell_Compare.j0 f x k n s k' n' s') (if x = true then numC n n' else compareBytes (strV k n s).data.toList (strV k' n' s').data.toList) := by
    intro x
    refine Ev.step (f := fun f => some (if x = true then numC n n' else compareBytes (strV k n s).data.toList (strV k' n' s').data.toList)) (fun f => ?_) (Ev.now _)
    simp only [cell_Compare.j0]
    cases x with
    | true =>
      rw [if_pos rfl, if_pos rfl]
      have e : cmp_Compare_int64.f n n' = some (numC n n') := by
        unfold cmp_Compare_int64.f cmp_isNaN_int64.f numC
        simp
        split
        · rfl
        · split <;> rfl
      rw [e]; rfl
    | false =>
      rw [if_neg (by simp), if_neg (by simp), str_f k n s hn, str_f k' n' s' hn']
      simp only [Option.bind_some, text_Compare.f, strings_Compare.f]
  unfold cell_Compare.f cmpV
  by_cases h : k = 2
  · simp only [if_pos h]
    have := hj false
    rw [if_neg (by simp)] at this
    rw [if_neg (by omega)]; exact this
  · simp only [if_neg h]
    have := hj (k' != 2)
    by_cases h' : k' = 2
    · rw [if_neg (by omega)]
      rw [if_neg (by simp [h'])] at this; exact this
    · rw [if_pos ⟨h, h'⟩]
      rw [if_pos (by simp [h'])] at this; exact this
theorem numC_neg (x y : Int) : numC y x = - numC x y := by
  unfold numC
  by_cases h1 : x < y
  · rw [if_neg (by omega), if_pos (by omega), if_pos h1]; decide
  · by_cases h2 : y < x
    · rw [if_pos h2, if_neg h1, if_pos h2]
    · rw [if_neg h2, if_neg (by omega), if_neg h1, if_neg (by omega)]; rfl
theorem numC_refl (x : Int) : numC x x = 0 := by unfold numC; rw [if_neg (by omega), if_neg (by omega)]
theorem numC_le (x y : Int) : numC x y ≤ 0 ↔ x ≤ y := by
  unfold numC
  by_cases h1 : x < y
  · rw [if_pos h1]; omega
  · rw [if_neg h1]
    by_cases h2 : x > y
    · rw [if_pos h2]; omega
    · rw [if_neg h2]; omega
theorem cmpV_neg (k n : Int) (s : ByteArray) (k' n' : Int) (s' : ByteArray) : cmpV k' n' s' k n s = - cmpV k n s k' n' s' := by
  unfold cmpV
  by_cases h : k ≠ 2 ∧ k' ≠ 2
  · rw [if_pos h, if_pos ⟨h.2, h.1⟩]; exact numC_neg _ _
  · rw [if_neg h, if_neg (fun hc => h ⟨hc.2, hc.1⟩)]; exact cb_neg _ _
theorem cmpV_refl (k n : Int) (s : ByteArray) : cmpV k n s k n s = 0 := by
  unfold cmpV
  split
  · exact numC_refl _
  · exact cb_refl _
theorem cmpV_range (k n : Int) (s : ByteArray) (k' n' : Int) (s' : ByteArray) : -1 ≤ cmpV k n s k' n' s' ∧ cmpV k n s k' n' s' ≤ 1 := by
  unfold cmpV
  split
  · unfold numC; split
    · omega
    · split <;> omega
  · have := cb_range (strV k n s).data.toList (strV k' n' s').data.toList
    omega

/-- What is a cell: some answer comes. -/
theorem can_ev (k n : Int) (s : ByteArray) (hs : s.size ≤ 300) : ∃ b, Ev (fun f => aukletref03_Can.f f k n s) b := by
  have hI : ∃ b, Ev (fun f => (aukletref03_Input.f f s).bind fun bt => some (bt.1 == k && (bt.2.1 == n && (bt.2.2.toList == s.toList)))) b := ⟨_, Ev.bind (refInput s hs) (Ev.now _)⟩
  obtain ⟨b, hb⟩ := hI
  unfold aukletref03_Can.f
  by_cases h0 : k = 0
  · simp only [if_pos h0, if_neg (show ¬ k = 1 by omega), if_neg (show ¬ k = 2 by omega), if_neg (show ¬ k = 3 by omega)]
    by_cases hn : n = 0
    · simp only [if_pos hn]
      by_cases he : s.toList = ([] : List UInt8)
      · simp only [if_pos he]; exact ⟨_, Ev.now _⟩
      · simp only [if_neg he]; exact ⟨_, Ev.now _⟩
    · simp only [if_neg hn]; exact ⟨_, Ev.now _⟩
  · simp only [if_neg h0]
    by_cases h1 : k = 1
    · simp only [if_pos h1, if_neg (show ¬ k = 2 by omega), if_neg (show ¬ k = 3 by omega)]
      by_cases he : s.toList = ([] : List UInt8)
      · simp only [if_pos he]; exact ⟨_, Ev.now _⟩
      · simp only [if_neg he]; exact ⟨_, Ev.now _⟩
    · simp only [if_neg h1]
      by_cases h2 : k = 2
      · simp only [if_pos h2, if_neg (show ¬ k = 3 by omega)]
        by_cases hn : n = 0
        · simp only [if_pos hn]; exact ⟨_, Ev.now _⟩
        · simp only [if_neg hn]; exact ⟨_, Ev.now _⟩
      · simp only [if_neg h2]
        by_cases h3 : k = 3
        · simp only [if_pos h3]; exact ⟨b, hb⟩
        · simp only [if_neg h3]; exact ⟨_, Ev.now _⟩
end Go.Proofs.Ytdcakdloakammaa.Cel
