/- Cells held against each other, in plain Lean: both the code's and the reference's comparison. -/
import Derived.Test.YtfejcghnbimedaaDoorCel
import Derived.Test.YtfejcghnbimedaaDoorCanB
set_option linter.unusedVariables false
set_option linter.unusedSimpArgs false
namespace Go.Proofs.YtfejcghnbimedaaDoor.Cel
open Go.RowKit Go.Proofs.YtfejcghnbimedaaDoor.PCell Go.Proofs.YtfejcghnbimedaaDoorW.PrintWords Go.Proofs.YtfejcghnbimedaaDoorW.PrintLast
open Go.Proofs.YtfejcghnbimedaaDoor.Dig Go.Proofs.YtfejcghnbimedaaDoor.Div Go.Proofs.YtfejcghnbimedaaDoor.Giv Go.Proofs.YtfejcghnbimedaaDoor.Shw Go.Proofs.YtfejcghnbimedaaDoor.Prs
open Go.Lib (compareBytes)

theorem cb_refl : ∀ a : List UInt8, compareBytes a a = 0
  | [] => rfl
  | x :: a => by
    have h : ¬ x < x := UInt8.lt_irrefl x
    unfold compareBytes
    rw [if_neg h, if_neg h]; exact cb_refl a
theorem cb_neg : ∀ a b : List UInt8, compareBytes b a = - compareBytes a b
  | [], [] => rfl
  | [], _ :: _ => rfl
  | _ :: _, [] => rfl
  | x :: a, y :: b => by
    unfold compareBytes
    by_cases h1 : x < y
    · have h2 : ¬ y < x := fun h => UInt8.lt_irrefl x (UInt8.lt_trans h1 h)
      rw [if_neg h2, if_pos h1, if_pos h1]; decide
    · by_cases h2 : y < x
      · rw [if_pos h2, if_neg h1, if_pos h2]
      · rw [if_neg h2, if_neg h1, if_neg h1, if_neg h2]; exact cb_neg a b
theorem cb_range : ∀ a b : List UInt8, compareBytes a b = -1 ∨ compareBytes a b = 0 ∨ compareBytes a b = 1
  | [], [] => .inr (.inl rfl)
  | [], _ :: _ => .inl rfl
  | _ :: _, [] => .inr (.inr rfl)
  | x :: a, y :: b => by
    unfold compareBytes
    by_cases h1 : x < y
    · rw [if_pos h1]; exact .inl rfl
    · rw [if_neg h1]
      by_cases h2 : y < x
      · rw [if_pos h2]; exact .inr (.inr rfl)
      · rw [if_neg h2]; exact cb_range a b
theorem cb_trans : ∀ a b c : List UInt8, compareBytes a b ≤ 0 → compareBytes b c ≤ 0 → compareBytes a c ≤ 0
  | [], _, [], _, _ => by decide
  | [], _, _ :: _, _, _ => by show (-1 : Int) ≤ 0; decide
  | _ :: _, [], _, h, _ => absurd h (by show ¬ (1 : Int) ≤ 0; decide)
  | _ :: _, _ :: _, [], _, h => absurd h (by show ¬ (1 : Int) ≤ 0; decide)
  | x :: a, y :: b, z :: c, h1, h2 => by
    unfold compareBytes at h1 h2 ⊢
    have toN : ∀ u v : UInt8, u < v ↔ u.toNat < v.toNat := fun u v => UInt8.lt_iff_toNat_lt
    have ih := cb_trans a b c
    by_cases xy : x < y
    · by_cases yz : y < z
      · rw [if_pos (UInt8.lt_trans xy yz)]; decide
      · by_cases zy : z < y
        · rw [if_neg yz, if_pos zy] at h2; omega
        · have e : y = z := UInt8.toNat_inj.1 (by rw [toN] at yz zy; omega)
          rw [← e, if_pos xy]; decide
    · rw [if_neg xy] at h1
      by_cases yx : y < x
      · rw [if_pos yx] at h1; omega
      · rw [if_neg yx] at h1
        have e : x = y := UInt8.toNat_inj.1 (by rw [toN] at xy yx; omega)
        subst e
        by_cases yz : x < z
        · rw [if_pos yz]; decide
        · rw [if_neg yz] at h2 ⊢
          by_cases zy : z < x
          · rw [if_pos zy] at h2; omega
          · rw [if_neg zy] at h2 ⊢
            exact ih h1 h2

theorem tl_at {s : ByteArray} {i : Nat} (h : i < s.size) : tl s i = s.data.toList.getD i 0 :: tl s (i + 1) := by
  unfold tl
  have h2 : i < s.data.toList.length := by rw [size_len]; exact h
  rw [List.drop_eq_getElem_cons h2, List.getD_eq_getElem?_getD, List.getElem?_eq_getElem h2]; rfl
theorem tl_end {s : ByteArray} {i : Nat} (h : s.size ≤ i) : tl s i = [] := by
  unfold tl; exact List.drop_eq_nil_of_le (by rw [size_len]; exact h)

theorem cmp_loop (a b : ByteArray) (la : a.size ≤ 1000000000000000000) : ∀ (n i : Nat), a.size - i ≤ n → i ≤ a.size → i ≤ b.size →
    Ev (fun k => aukletref02_Compare.l0 k a b (i : Int)) (compareBytes (tl a i) (tl b i)) := by
  intro n
  have fin : ∀ i : Nat, i ≤ a.size → i ≤ b.size → (i = a.size ∨ i = b.size) → ∀ k, aukletref02_Compare.j1 (k + 1) a b (i : Int) false = some (compareBytes (tl a i) (tl b i)) := by
    intro i ha hb hc k
    simp only [aukletref02_Compare.j1]
    rw [if_neg (by simp)]
    by_cases e1 : i = a.size
    · rw [tl_end (s := a) (by omega)]
      by_cases e2 : i = b.size
      · rw [tl_end (s := b) (by omega), if_pos (by omega)]; rfl
      · rw [tl_at (s := b) (by omega), if_neg (by omega), if_pos (by omega)]; rfl
    · have e2 : i = b.size := by omega
      rw [tl_end (s := b) (by omega), tl_at (s := a) (by omega), if_neg (by omega), if_neg (by omega)]; rfl
  have step0 : ∀ i : Nat, i ≤ a.size → i ≤ b.size → (i = a.size ∨ i = b.size) → Ev (fun k => aukletref02_Compare.l0 k a b (i : Int)) (compareBytes (tl a i) (tl b i)) := by
    intro i ha hb hc
    refine ⟨2, fun k hk => ?_⟩
    obtain ⟨j, rfl⟩ : ∃ j, k = j + 2 := ⟨k - 2, by omega⟩
    simp only [aukletref02_Compare.l0]
    by_cases e1 : i = a.size
    · rw [if_neg (by omega)]; exact fin i ha hb hc j
    · rw [if_pos (by omega), decide_eq_false (by omega)]; exact fin i ha hb hc j
  induction n with
  | zero => intro i hn ha hb; exact step0 i ha hb (.inl (by omega))
  | succ n ih =>
    intro i hn ha hb
    by_cases hc : i = a.size ∨ i = b.size
    · exact step0 i ha hb hc
    · have h1 : i < a.size := by omega
      have h2 : i < b.size := by omega
      have hs : ∀ k, aukletref02_Compare.l0 (k + 2) a b (i : Int) = if (bt a (i : Int)) = (bt b (i : Int)) then (aukletref02_Compare.l0 k a b ((i + 1 : Nat) : Int)) else (if (bt a (i : Int)) < (bt b (i : Int)) then (some (-1)) else (some 1)) := by
        intro k
        have hw : wrap64 ((i : Int) + 1) = ((i + 1 : Nat) : Int) := by rw [wrap_in (by omega) (by omega)]; omega
        simp only [aukletref02_Compare.l0]
        rw [if_pos (by omega), decide_eq_true (by omega)]
        simp only [aukletref02_Compare.j1]
        rw [if_pos trivial, if_pos (by omega), if_pos (by omega), if_pos (by omega), hw]
      rw [tl_at h1, tl_at h2]
      have ba : bt a (i : Int) = ((a.data.toList.getD i 0).toNat : Int) := bt_by h1
      have bb : bt b (i : Int) = ((b.data.toList.getD i 0).toNat : Int) := bt_by h2
      generalize a.data.toList.getD i 0 = x at ba
      generalize b.data.toList.getD i 0 = y at bb
      have toN : ∀ u v : UInt8, u < v ↔ u.toNat < v.toNat := fun u v => UInt8.lt_iff_toNat_lt
      rw [ba, bb] at hs
      unfold compareBytes
      by_cases e : (x.toNat : Int) = (y.toNat : Int)
      · rw [if_neg (by rw [toN]; omega), if_neg (by rw [toN]; omega)]
        obtain ⟨K, hK⟩ := ih (i + 1) (by omega) (by omega) (by omega)
        refine ⟨K + 2, fun k hk => ?_⟩
        obtain ⟨j, rfl⟩ : ∃ j, k = j + 2 := ⟨k - 2, by omega⟩
        show aukletref02_Compare.l0 (j + 2) a b (i : Int) = _
        rw [hs, if_pos e]; exact hK j (by omega)
      · refine ⟨2, fun k hk => ?_⟩
        obtain ⟨j, rfl⟩ : ∃ j, k = j + 2 := ⟨k - 2, by omega⟩
        show aukletref02_Compare.l0 (j + 2) a b (i : Int) = _
        rw [hs, if_neg e]
        by_cases e2 : (x.toNat : Int) < (y.toNat : Int)
        · rw [if_pos e2, if_pos (by rw [toN]; omega)]
        · rw [if_neg e2, if_neg (by rw [toN]; omega), if_pos (by rw [toN]; omega)]
theorem refTextCompare (a b : ByteArray) (la : a.size ≤ 1000000000000000000) : Ev (fun k => aukletref02_Compare.f k a b) (compareBytes a.data.toList b.data.toList) :=
  cmp_loop a b la a.size 0 (by omega) (by omega) (by omega)

/-- A cell's text. -/
def strV (k n : Int) (s : ByteArray) : ByteArray := if k = 1 then showV n else if k = 2 then s else if k = 3 then s else (⟨#[]⟩ : ByteArray)
theorem str_f (k n : Int) (s : ByteArray) (hn : In n) : cell_str.f k n s = some (strV k n s) := by
  have hs : dec_Show.f n = some (showV n) := by unfold dec_Show.f; exact if_pos hn
  unfold cell_str.f strV
  rw [hs]
  split
  · rfl
  · split
    · rfl
    · split <;> rfl
theorem refStr (k n : Int) (s : ByteArray) (hn : In n) : Ev (fun f => aukletref03_Str.f f k n s) (strV k n s) := by
  unfold aukletref03_Str.f strV
  by_cases h1 : k = 1
  · simp only [if_pos h1]; exact Ev.bind (show_ref hn.1 hn.2) (Ev.now _)
  · simp only [if_neg h1]
    by_cases h2 : k = 2
    · simp only [if_pos h2]; exact Ev.now _
    · simp only [if_neg h2]
      by_cases h3 : k = 3
      · simp only [if_pos h3]; exact Ev.now _
      · simp only [if_neg h3]; exact Ev.now _
theorem strV_le (k n : Int) (s : ByteArray) (hn : In n) (hs : s.size ≤ 300) : (strV k n s).size ≤ 20000000000000 := by
  have := show_le n hn
  unfold strV
  split
  · exact this
  · split
    · omega
    · split
      · omega
      · show 0 ≤ _; omega

/-- Two cells held against each other. -/
def numC (x y : Int) : Int := if x < y then -1 else if x > y then 1 else 0
def cmpV (k n : Int) (s : ByteArray) (k' n' : Int) (s' : ByteArray) : Int :=
  if k ≠ 2 ∧ k' ≠ 2 then numC n n' else compareBytes (strV k n s).data.toList (strV k' n' s').data.toList
theorem cmpC_ev (k n : Int) (s : ByteArray) (k' n' : Int) (s' : ByteArray) (hn : In n) (hn' : In n') : Ev (fun f => cell_Compare.f f k n s k' n' s') (cmpV k n s k' n' s') := by
  have hj : ∀ x, Ev (fun f => cell_Compare.j0 f x k n s k' n' s') (if x = true then numC n n' else compareBytes (strV k n s).data.toList (strV k' n' s').data.toList) := by
    intro x
    refine Ev.step (f := fun f => some (if x = true then numC n n' else compareBytes (strV k n s).data.toList (strV k' n' s').data.toList)) (fun f => ?_) (Ev.now _)
    simp only [cell_Compare.j0]
    cases x with
    | true =>
      rw [if_pos rfl, if_pos rfl]
      have e : cmp_Compare_int64.f n n' = some (numC n n') := by
        unfold cmp_Compare_int64.f cmp_isNaN_int64.f numC
        simp
        split
        · rfl
        · split <;> rfl
      rw [e]; rfl
    | false =>
      rw [if_neg (by simp), if_neg (by simp), str_f k n s hn, str_f k' n' s' hn']
      simp only [Option.bind_some, text_Compare.f, strings_Compare.f]
  unfold cell_Compare.f cmpV
  by_cases h : k = 2
  · simp only [if_pos h]
    have := hj false
    rw [if_neg (by simp)] at this
    rw [if_neg (by omega)]; exact this
  · simp only [if_neg h]
    have := hj (k' != 2)
    by_cases h' : k' = 2
    · rw [if_neg (by omega)]
      rw [if_neg (by simp [h'])] at this; exact this
    · rw [if_pos ⟨h, h'⟩]
      rw [if_pos (by simp [h'])] at this; exact this
theorem cmpR_ev (k n : Int) (s : ByteArray) (k' n' : Int) (s' : ByteArray) (hn : In n) (hn' : In n') (hs : s.size ≤ 300) : Ev (fun f => aukletref03_Compare.f f k n s k' n' s') (cmpV k n s k' n' s') := by
  have hle := strV_le k n s hn hs
  have hj : ∀ x, Ev (fun f => aukletref03_Compare.j0 f x k n s k' n' s') (if x = true then compareBytes (strV k n s).data.toList (strV k' n' s').data.toList else numC n n') := by
    intro x
    cases x with
    | true =>
      rw [if_pos rfl]
      refine Ev.step (f := fun f => (aukletref03_Str.f f k n s).bind fun t286 => ((aukletref03_Str.f f k' n' s').bind fun t287 => ((aukletref02_Compare.f f t286 t287).bind fun t288 => (some t288)))) (fun f => ?_) (Ev.bind (refStr k n s hn) (Ev.bind (refStr k' n' s' hn') (Ev.bind (refTextCompare _ _ (by omega)) (Ev.now _))))
      simp only [aukletref03_Compare.j0]
      rw [if_pos trivial]
    | false =>
      rw [if_neg (by simp)]
      refine Ev.step (f := fun f => some (numC n n')) (fun f => ?_) (Ev.now _)
      simp only [aukletref03_Compare.j0]
      rw [if_neg (by simp)]
      unfold numC
      by_cases h1 : n = n'
      · rw [if_pos h1, if_neg (by omega), if_neg (by omega)]
      · rw [if_neg h1]
        by_cases h2 : n < n'
        · rw [if_pos h2, if_pos h2]
        · rw [if_neg h2, if_neg h2, if_pos (by omega)]
  unfold aukletref03_Compare.f cmpV
  by_cases h : k = 2
  · simp only [if_pos h]
    have := hj true
    rw [if_pos rfl] at this
    rw [if_neg (by omega)]; exact this
  · simp only [if_neg h]
    have := hj (k' == 2)
    by_cases h' : k' = 2
    · rw [if_neg (by omega)]
      rw [if_pos (by simp [h'])] at this; exact this
    · rw [if_pos ⟨h, h'⟩]
      rw [if_neg (by simp [h'])] at this; exact this
theorem numC_neg (x y : Int) : numC y x = - numC x y := by
  unfold numC
  by_cases h1 : x < y
  · rw [if_neg (by omega), if_pos (by omega), if_pos h1]; decide
  · by_cases h2 : y < x
    · rw [if_pos h2, if_neg h1, if_pos h2]
    · rw [if_neg h2, if_neg (by omega), if_neg h1, if_neg (by omega)]; rfl
theorem numC_refl (x : Int) : numC x x = 0 := by unfold numC; rw [if_neg (by omega), if_neg (by omega)]
theorem numC_le (x y : Int) : numC x y ≤ 0 ↔ x ≤ y := by
  unfold numC
  by_cases h1 : x < y
  · rw [if_pos h1]; omega
  · rw [if_neg h1]
    by_cases h2 : x > y
    · rw [if_pos h2]; omega
    · rw [if_neg h2]; omega
theorem cmpV_neg (k n : Int) (s : ByteArray) (k' n' : Int) (s' : ByteArray) : cmpV k' n' s' k n s = - cmpV k n s k' n' s' := by
  unfold cmpV
  by_cases h : k ≠ 2 ∧ k' ≠ 2
  · rw [if_pos h, if_pos ⟨h.2, h.1⟩]; exact numC_neg _ _
  · rw [if_neg h, if_neg (fun hc => h ⟨hc.2, hc.1⟩)]; exact cb_neg _ _
theorem cmpV_refl (k n : Int) (s : ByteArray) : cmpV k n s k n s = 0 := by
  unfold cmpV
  split
  · exact numC_refl _
  · exact cb_refl _
theorem cmpV_range (k n : Int) (s : ByteArray) (k' n' : Int) (s' : ByteArray) : -1 ≤ cmpV k n s k' n' s' ∧ cmpV k n s k' n' s' ≤ 1 := by
  unfold cmpV
  split
  · unfold numC; split
    · omega
    · split <;> omega
  · have := cb_range (strV k n s).data.toList (strV k' n' s').data.toList
    omega

/-- What is a cell: some answer comes. -/
theorem can_ev (k n : Int) (s : ByteArray) (hs : s.size ≤ 300) : ∃ b, Ev (fun f => aukletref03_Can.f f k n s) b := by
  have hI : ∃ b, Ev (fun f => (aukletref03_Input.f f s).bind fun bt => some (bt.1 == k && (bt.2.1 == n && (bt.2.2.toList == s.toList)))) b := ⟨_, Ev.bind (refInput s hs) (Ev.now _)⟩
  obtain ⟨b, hb⟩ := hI
  unfold aukletref03_Can.f
  by_cases h0 : k = 0
  · simp only [if_pos h0, if_neg (show ¬ k = 1 by omega), if_neg (show ¬ k = 2 by omega), if_neg (show ¬ k = 3 by omega)]
    by_cases hn : n = 0
    · simp only [if_pos hn]
      by_cases he : s.toList = ([] : List UInt8)
      · simp only [if_pos he]; exact ⟨_, Ev.now _⟩
      · simp only [if_neg he]; exact ⟨_, Ev.now _⟩
    · simp only [if_neg hn]; exact ⟨_, Ev.now _⟩
  · simp only [if_neg h0]
    by_cases h1 : k = 1
    · simp only [if_pos h1, if_neg (show ¬ k = 2 by omega), if_neg (show ¬ k = 3 by omega)]
      by_cases he : s.toList = ([] : List UInt8)
      · simp only [if_pos he]; exact ⟨_, Ev.now _⟩
      · simp only [if_neg he]; exact ⟨_, Ev.now _⟩
    · simp only [if_neg h1]
      by_cases h2 : k = 2
      · simp only [if_pos h2, if_neg (show ¬ k = 3 by omega)]
        by_cases hn : n = 0
        · simp only [if_pos hn]; exact ⟨_, Ev.now _⟩
        · simp only [if_neg hn]; exact ⟨_, Ev.now _⟩
      · simp only [if_neg h2]
        by_cases h3 : k = 3
        · simp only [if_pos h3]; exact ⟨b, hb⟩
        · simp only [if_neg h3]; exact ⟨_, Ev.now _⟩
theorem small_f (k n : Int) (s : ByteArray) : aukletlaw03_small.f k n s = some (decide ((s.size : Int) ≤ 300)) := rfl

end Go.Proofs.YtfejcghnbimedaaDoor.Cel
