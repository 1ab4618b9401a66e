/- Cells: what a text that comes in is, its text without blanks, the living call; in plain Lean. -/
import Derived.Test.YtfejcghnbimedaaDoorShs
import Derived.Test.YtfejcghnbimedaaDoorPrs
import Derived.Test.YtfejcghnbimedaaDoorPCellx8
set_option linter.unusedVariables false
set_option linter.unusedSimpArgs false
namespace Go.Proofs.YtfejcghnbimedaaDoor.Cel
open Go.RowKit Go.Proofs.YtfejcghnbimedaaDoor.PCell Go.Proofs.YtfejcghnbimedaaDoorW.PrintWords Go.Proofs.YtfejcghnbimedaaDoorW.PrintLast
open Go.Proofs.YtfejcghnbimedaaDoor.Dig Go.Proofs.YtfejcghnbimedaaDoor.Div Go.Proofs.YtfejcghnbimedaaDoor.Giv Go.Proofs.YtfejcghnbimedaaDoor.Shw Go.Proofs.YtfejcghnbimedaaDoor.Prs

/-- A text without blanks at both ends. -/
def trimV (s : ByteArray) : ByteArray := ⟨(Lib.trimS s.data.toList [32, 9, 10]).toArray⟩
theorem Trim_f (s : ByteArray) (h : s.size ≤ 9223372036854775807) : text_Trim.f s = some (trimV s) := by
  unfold text_Trim.f; rw [if_pos h]; rfl
theorem trimV_le (s : ByteArray) : (trimV s).size ≤ s.size := by
  have h1 : ∀ (p : UInt8 → Bool) (l : List UInt8), (l.dropWhile p).length ≤ l.length := fun p l => (List.dropWhile_sublist p).length_le
  have h2 : (Lib.trimS s.data.toList [32, 9, 10]).length ≤ s.data.toList.length := by
    unfold Lib.trimS Lib.trimLeftS Lib.trimRightS
    refine Nat.le_trans (h1 _ _) ?_
    rw [List.length_reverse]
    refine Nat.le_trans (h1 _ _) ?_
    rw [List.length_reverse]; exact Nat.le_refl _
  rw [size_len] at h2
  show (Lib.trimS s.data.toList [32, 9, 10]).toArray.size ≤ s.size
  rw [List.size_toArray]
  exact h2

/-- What a text that comes in is. -/
def inV (s : ByteArray) : Int × Int × ByteArray :=
  if (trimV s).toList ≠ ([] : List UInt8) ∧ (parseV (trimV s)).2.1 = ((trimV s).size : Int) ∧ (parseV (trimV s)).2.2 = 0 then (3, (parseV (trimV s)).1, s) else (2, 0, s)
theorem input_f (s : ByteArray) (h : s.size ≤ 1000000000000000000) : cell_input.f s = some (inV s) := by
  have hl := trimV_le s
  have hp : dec_Parse.f (trimV s) = some (parseV (trimV s)) := by
    unfold dec_Parse.f; exact if_pos (by omega)
  unfold cell_input.f inV
  rw [Trim_f s (by omega)]
  simp only [Option.bind_some]
  rw [hp]
  simp only [Option.bind_some]
  by_cases h1 : (trimV s).toList = ([] : List UInt8)
  · rw [if_pos h1, if_neg (fun hc => hc.1 h1)]
  · rw [if_neg h1]
    by_cases h2 : (parseV (trimV s)).2.1 = ((trimV s).size : Int)
    · rw [if_pos h2]
      by_cases h3 : (parseV (trimV s)).2.2 = 0
      · rw [if_pos h3, if_pos ⟨h1, h2, h3⟩]
      · rw [if_neg h3, if_neg (fun hc => h3 hc.2.2)]
    · rw [if_neg h2, if_neg (fun hc => h2 hc.2.1)]
theorem Input_f (s : ByteArray) (h : s.size ≤ 1000000000000000000) : cell_Input.f s = some (inV s) := by
  unfold cell_Input.f; rw [input_f s h]; rfl
theorem inV_2 (s : ByteArray) : (inV s).2.2 = s := by
  unfold inV; split <;> rfl
theorem inV_1 (s : ByteArray) : (inV s).1 = 3 ∨ ((inV s).1 = 2 ∧ (inV s).2.1 = 0) := by
  unfold inV; split
  · exact .inl rfl
  · exact .inr ⟨rfl, rfl⟩

theorem lives_spec : Ev (fun k => aukletlaw03_lives.f k) true := by
  have e1 : inV (⟨#[32, 49, 48, 32]⟩ : ByteArray) = (3, 10000000, ⟨#[32, 49, 48, 32]⟩) := by
    unfold inV
    have e0 : trimV (⟨#[32, 49, 48, 32]⟩ : ByteArray) = ⟨#[49, 48]⟩ := by decide +kernel
    have e2 : parseV (⟨#[49, 48]⟩ : ByteArray) = (10000000, 2, 0) := by decide +kernel
    rw [e0, e2]
    exact if_pos (by decide +kernel)
  refine ⟨2, fun k hk => ?_⟩
  obtain ⟨j, rfl⟩ : ∃ j, k = j + 1 := ⟨k - 1, by omega⟩
  show aukletlaw03_lives.f (j + 1) = some true
  unfold aukletlaw03_lives.f
  rw [Input_f _ (by decide), e1]
  simp only [Option.bind_some]
  rw [if_pos (by decide +kernel)]
  simp only [cell_OfNum.f, Option.bind_some, cell_Compare.f]
  rw [if_neg (by decide)]
  simp only [cell_Compare.j0]
  rw [if_pos (by decide)]
  rfl

/-! ### The reference's Trim -/
def pB (c : UInt8) : Bool := ([32, 9, 10] : List UInt8).contains c
def tL (l : List UInt8) : List UInt8 := l.dropWhile pB
def tR (l : List UInt8) : List UInt8 := (l.reverse.dropWhile pB).reverse
theorem trimV_eq (s : ByteArray) : trimV s = ⟨(tL (tR s.data.toList)).toArray⟩ := rfl
theorem tR_cons (x : UInt8) (l : List UInt8) : tR (x :: l) = if tR l = [] then (if pB x = true then [] else [x]) else x :: tR l := by
  unfold tR
  rw [List.reverse_cons, List.dropWhile_append]
  by_cases h : l.reverse.dropWhile pB = []
  · rw [h]
    simp only [List.isEmpty_nil, if_true, List.reverse_nil]
    by_cases hx : pB x = true
    · rw [if_pos hx]; simp [List.dropWhile, hx]
    · rw [if_neg hx]; simp [List.dropWhile, hx]
  · have h2 : (l.reverse.dropWhile pB).reverse ≠ [] := by simpa using h
    have h3 : (l.reverse.dropWhile pB).isEmpty = false := by simpa using h
    rw [h3, if_neg h2]
    simp
theorem tLR : ∀ l : List UInt8, tL (tR l) = tR (tL l)
  | [] => rfl
  | x :: l => by
    rw [tR_cons]
    have ih := tLR l
    by_cases hx : pB x = true
    · have e : tL (x :: l) = tL l := by unfold tL; rw [List.dropWhile_cons_of_pos hx]
      rw [e, ← ih]
      by_cases h : tR l = []
      · rw [if_pos h, if_pos hx, h]
      · rw [if_neg h]; unfold tL; rw [List.dropWhile_cons_of_pos hx]
    · have e : ∀ m : List UInt8, tL (x :: m) = x :: m := fun m => by unfold tL; rw [List.dropWhile_cons_of_neg hx]
      rw [e l, tR_cons]
      by_cases h : tR l = []
      · rw [if_pos h, if_neg hx, e]
      · rw [if_neg h, e]
theorem tR_snoc (l : List UInt8) (x : UInt8) : tR (l ++ [x]) = if pB x = true then tR l else l ++ [x] := by
  unfold tR
  rw [List.reverse_append, List.reverse_singleton, List.singleton_append]
  by_cases hx : pB x = true
  · rw [if_pos hx, List.dropWhile_cons_of_pos hx]
  · rw [if_neg hx, List.dropWhile_cons_of_neg hx, List.reverse_cons, List.reverse_reverse]

def B (l : List UInt8) : ByteArray := ⟨l.toArray⟩
theorem B_size (l : List UInt8) : (B l).size = l.length := by simp [B, ByteArray.size]
theorem B_of (s : ByteArray) : B s.data.toList = s := by unfold B; simp
theorem B_list (l : List UInt8) : (B l).data.toList = l := by simp [B]
theorem B_tail (c : UInt8) (l : List UInt8) : (B (c :: l)).extract 1 (B (c :: l)).size = B l := by
  apply ByteArray.ext
  apply Array.toList_inj.1
  rw [ByteArray.data_extract, Array.toList_extract, B_size]
  show List.extract (c :: l) 1 (c :: l).length = l
  simp [List.extract]
theorem B_init (l : List UInt8) (c : UInt8) : (B (l ++ [c])).extract 0 l.length = B l := by
  apply ByteArray.ext
  apply Array.toList_inj.1
  rw [ByteArray.data_extract, Array.toList_extract]
  show List.extract (l ++ [c]) 0 l.length = l
  simp [List.extract]
theorem blank_at (l : List UInt8) (p : Nat) (h : p < l.length) : aukletref02_Blank.f (bt (B l) (p : Int)) = some (pB (l.getD p 0)) := by
  rw [bt_by (s := B l) (p := p) (by rw [B_size]; exact h)]
  have e : by_ (B l) p = (l.getD p 0).toNat := by unfold by_; rw [B_list]
  rw [e]
  generalize l.getD p 0 = c
  have hc : ∀ n : Nat, n < 256 → (((c.toNat : Int) = (n : Int)) ↔ c = UInt8.ofNat n) := fun n hn => by
    constructor
    · intro h; apply UInt8.toNat_inj.1; rw [UInt8.toNat_ofNat']; omega
    · intro h; rw [h, UInt8.toNat_ofNat']; omega
  have h32 := hc 32 (by omega)
  have h9 := hc 9 (by omega)
  have h10 := hc 10 (by omega)
  unfold aukletref02_Blank.f pB
  by_cases a1 : (c.toNat : Int) = 32
  · rw [if_pos a1, h32.1 a1]; rfl
  · rw [if_neg a1]
    by_cases a2 : (c.toNat : Int) = 9
    · rw [if_pos a2, h9.1 a2]; rfl
    · rw [if_neg a2]
      congr 1
      have b1 : c ≠ 32 := fun h => a1 (h32.2 h)
      have b2 : c ≠ 9 := fun h => a2 (h9.2 h)
      have e3 : ((c.toNat : Int) == 10) = (c == 10) := by
        rw [Bool.eq_iff_iff, beq_iff_eq, beq_iff_eq]; exact h10
      rw [e3]
      simp only [List.contains, List.elem, beq_eq_false_iff_ne.2 b1, beq_eq_false_iff_ne.2 b2]
      cases c == 10 <;> rfl
theorem l1_ev : ∀ (n : Nat) (l : List UInt8), l.length = n → n ≤ 1000000 → Ev (fun k => aukletref02_Trim.l1 k (B l)) (B (tR l)) := by
  intro n
  induction n with
  | zero =>
    intro l hl _
    obtain rfl : l = [] := List.length_eq_zero_iff.1 hl
    refine ⟨1, fun k hk => ?_⟩
    obtain ⟨j, rfl⟩ : ∃ j, k = j + 1 := ⟨k - 1, by omega⟩
    simp only [aukletref02_Trim.l1]
    rw [if_neg (by rw [B_size]; simp)]; rfl
  | succ n ih =>
    intro l hl hn
    obtain ⟨m, c, rfl⟩ : ∃ m c, l = m ++ [c] := ⟨l.dropLast, l.getLast (by intro h; rw [h] at hl; simp at hl), (List.dropLast_concat_getLast _).symm⟩
    have hm : m.length = n := by simpa using hl
    have hs : (B (m ++ [c])).size = n + 1 := by rw [B_size]; simpa using hl
    have hw : wrap64 (((B (m ++ [c])).size : Int) - 1) = (n : Int) := by rw [wrap_in (by omega) (by omega)]; omega
    have hg : (m ++ [c]).getD n 0 = c := by rw [List.getD_eq_getElem?_getD, List.getElem?_append_right (by omega), hm]; simp
    have hb := blank_at (m ++ [c]) n (by simp; omega)
    rw [hg] at hb
    by_cases hc : pB c = true
    · refine Ev.step (f := fun k => aukletref02_Trim.l1 k (B m)) (fun k => ?_) ?_
      · simp only [aukletref02_Trim.l1]
        rw [hw, if_pos (by omega), if_pos (by omega), if_pos (by omega), hb, hc]
        simp only [Option.bind_some, if_true]
        rw [if_pos (by omega)]
        have e : (B (m ++ [c])).extract 0 ((n : Int)).toNat = B m := by rw [Int.toNat_natCast, ← hm]; exact B_init m c
        rw [e]
      · have := ih m hm (by omega)
        rw [tR_snoc, if_pos hc]
        exact this
    · refine Ev.step (f := fun k => some (B (m ++ [c]))) (fun k => ?_) ?_
      · simp only [aukletref02_Trim.l1]
        rw [hw, if_pos (by omega), if_pos (by omega), if_pos (by omega), hb]
        simp only [Option.bind_some]
        rw [if_neg hc]
      · rw [tR_snoc, if_neg hc]; exact Ev.now _
theorem l0_ev : ∀ l : List UInt8, l.length ≤ 1000000 → Ev (fun k => aukletref02_Trim.l0 k (B l)) (B (tR (tL l)))
  | [], _ => by
    refine Ev.step (f := fun k => aukletref02_Trim.j1 k (B [])) (fun k => ?_) ?_
    · simp only [aukletref02_Trim.l0]
      rw [if_neg (by rw [B_size]; simp)]
    · refine Ev.step (f := fun k => aukletref02_Trim.l1 k (B [])) (fun k => ?_) (l1_ev 0 [] rfl (by omega))
      simp only [aukletref02_Trim.j1]
  | c :: l, h => by
    have hs : (B (c :: l)).size = l.length + 1 := by rw [B_size]; rfl
    have hl : l.length + 1 ≤ 1000000 := h
    have hb := blank_at (c :: l) 0 (by simp)
    by_cases hc : pB c = true
    · refine Ev.step (f := fun k => aukletref02_Trim.l0 k (B l)) (fun k => ?_) ?_
      · simp only [aukletref02_Trim.l0]
        rw [if_pos (by omega), if_pos (by omega)]
        have hb2 : aukletref02_Blank.f (bt (B (c :: l)) 0) = some (pB c) := hb
        rw [hb2, hc]
        simp only [Option.bind_some, if_true]
        rw [if_pos (by omega), B_tail]
      · have := l0_ev l (by omega)
        unfold tL
        rw [List.dropWhile_cons_of_pos hc]
        exact this
    · refine Ev.step (f := fun k => aukletref02_Trim.j1 k (B (c :: l))) (fun k => ?_) ?_
      · simp only [aukletref02_Trim.l0]
        rw [if_pos (by omega), if_pos (by omega)]
        have hb2 : aukletref02_Blank.f (bt (B (c :: l)) 0) = some (pB c) := hb
        rw [hb2]
        simp only [Option.bind_some]
        rw [if_neg hc]
      · unfold tL
        rw [List.dropWhile_cons_of_neg hc]
        refine Ev.step (f := fun k => aukletref02_Trim.l1 k (B (c :: l))) (fun k => ?_) (l1_ev (l.length + 1) (c :: l) rfl (by omega))
        simp only [aukletref02_Trim.j1]
theorem refTrim (s : ByteArray) (h : s.size ≤ 1000000) : Ev (fun k => aukletref02_Trim.f k s) (trimV s) := by
  have := l0_ev s.data.toList (by rw [size_len]; exact h)
  rw [← tLR, B_of] at this
  exact this
theorem refInput (s : ByteArray) (h : s.size ≤ 300) : Ev (fun k => aukletref03_Input.f k s) (inV s) := by
  have hl := trimV_le s
  have hp := parse_ref (trimV s) (by omega)
  unfold aukletref03_Input.f
  refine Ev.bind (refTrim s (by omega)) (Ev.bind hp ?_)
  have hz : (trimV s).toList = ([] : List UInt8) ↔ (trimV s).size = 0 := by
    rw [ByteArray.toList_eq, ← size_len, List.length_eq_zero_iff]
  unfold inV
  by_cases h1 : (trimV s).toList = ([] : List UInt8)
  · rw [if_neg (by have := hz.1 h1; omega), if_neg (fun hc => hc.1 h1)]; exact Ev.now _
  · rw [if_pos (by have : (trimV s).size ≠ 0 := fun h => h1 (hz.2 h)
                   omega)]
    by_cases h2 : (parseV (trimV s)).2.1 = ((trimV s).size : Int)
    · rw [if_pos h2]
      by_cases h3 : (parseV (trimV s)).2.2 = 0
      · rw [if_pos h3, if_pos ⟨h1, h2, h3⟩]; exact Ev.now _
      · rw [if_neg h3, if_neg (fun hc => h3 hc.2.2)]; exact Ev.now _
    · rw [if_neg h2, if_neg (fun hc => h2 hc.2.1)]; exact Ev.now _

/-! ### A number's text comes in as that number -/
theorem tL_no : ∀ l : List UInt8, (∀ c ∈ l, pB c = false) → tL l = l
  | [], _ => rfl
  | c :: l, h => by unfold tL; rw [List.dropWhile_cons_of_neg (by simp [h c])]
theorem tR_no (l : List UInt8) (h : ∀ c ∈ l, pB c = false) : tR l = l := by
  have := tL_no l.reverse (fun c hc => h c (List.mem_reverse.1 hc))
  unfold tR; unfold tL at this; rw [this, List.reverse_reverse]
theorem show_chars (a : Int) (ha : In a) : ∀ c ∈ ch (showL a), pB c = false := by
  obtain ⟨I, F, p1, p2, p3, p4, p5, _⟩ := show_parts a ha
  have hd : ∀ x : Int, (x = 45 ∨ x = 46 ∨ (48 ≤ x ∧ x ≤ 57)) → pB (UInt8.ofNat x.toNat) = false := by
    intro x hx
    obtain ⟨n, rfl⟩ : ∃ n : Nat, x = n := ⟨x.toNat, by omega⟩
    have hn : n = 45 ∨ n = 46 ∨ n = 48 ∨ n = 49 ∨ n = 50 ∨ n = 51 ∨ n = 52 ∨ n = 53 ∨ n = 54 ∨ n = 55 ∨ n = 56 ∨ n = 57 := by omega
    rcases hn with rfl | rfl | rfl | rfl | rfl | rfl | rfl | rfl | rfl | rfl | rfl | rfl <;> decide
  intro c hc
  unfold ch at hc
  obtain ⟨x, hx, rfl⟩ := List.mem_map.1 hc
  apply hd
  rw [p1] at hx
  rcases List.mem_append.1 hx with h | h
  · by_cases hn : a < 0
    · rw [if_pos hn] at h; left; simpa using h
    · rw [if_neg hn] at h; cases h
  · rcases List.mem_append.1 h with h | h
    · right; right; have := p3 x h; omega
    · by_cases hF : F ≠ []
      · rw [if_pos hF] at h
        rcases List.mem_cons.1 h with h | h
        · right; left; exact h
        · right; right; have := p4 x h; omega
      · rw [if_neg hF] at h; cases h
theorem show_list (a : Int) : (showV a).data.toList = ch (showL a) := by unfold showV ch; simp
theorem trim_show (a : Int) (ha : In a) : trimV (showV a) = showV a := by
  rw [trimV_eq, show_list, tR_no _ (show_chars a ha), tL_no _ (show_chars a ha), ← show_list]
theorem show_ne (a : Int) (ha : In a) : (showV a).toList ≠ ([] : List UInt8) := by
  obtain ⟨I, F, p1, p2, _⟩ := show_parts a ha
  rw [ByteArray.toList_eq, show_list]
  unfold ch
  rw [p1]
  intro h
  have := List.map_eq_nil_iff.1 h
  simp [p2] at this
theorem in_show (a : Int) (ha : In a) : inV (showV a) = (3, a, showV a) := by
  unfold inV
  rw [trim_show a ha, parse_self a ha]
  exact if_pos ⟨show_ne a ha, rfl, rfl⟩
theorem trim_show2 (a : Int) (ha : In a) (s : ByteArray) (hs : s.data.toList = 32 :: (ch (showL a) ++ [10])) : trimV s = showV a := by
  have hc := show_chars a ha
  rw [trimV_eq, hs]
  have e1 : tR (32 :: (ch (showL a) ++ [10])) = 32 :: ch (showL a) := by
    have e0 : tR (ch (showL a) ++ [10]) = ch (showL a) := by
      rw [tR_snoc, if_pos (by decide), tR_no _ hc]
    rw [tR_cons, e0, if_neg]
    intro h
    have := show_ne a ha
    rw [ByteArray.toList_eq, show_list] at this
    exact this h
  have e2 : tL (32 :: ch (showL a)) = ch (showL a) := by
    unfold tL
    rw [List.dropWhile_cons_of_pos (by decide)]
    exact tL_no _ hc
  rw [e1, e2, ← show_list]
theorem in_show2 (a : Int) (ha : In a) (s : ByteArray) (hs : s.data.toList = 32 :: (ch (showL a) ++ [10])) : inV s = (3, a, s) := by
  unfold inV
  rw [trim_show2 a ha s hs, parse_self a ha]
  exact if_pos ⟨show_ne a ha, rfl, rfl⟩
theorem show_le (a : Int) (ha : In a) : (showV a).size ≤ 20000000000000 := by
  obtain ⟨I, F, p1, p2, _, _, _, h⟩ := show_parts a ha
  rw [show_size]; exact h

end Go.Proofs.YtfejcghnbimedaaDoor.Cel
