/- The characters of a text as plain functions: where each begins and how wide it is. -/
import Derived.Lib.RuneCountTail
import Derived.Laws.RangeAny
set_option linter.unusedVariables false
set_option linter.unusedSimpArgs false
namespace Go.Proofs.YtjjdejjhbfcfkaaDoor.Giv

/-- The width of the character at p. -/
def wd (s : ByteArray) (p : Nat) : Nat := (Utf8.decode s p).2

theorem decodeN_fits (n b0 b1 b2 b3 : Nat) (h : 1 ≤ n) : 1 ≤ (Lib.decodeN n b0 b1 b2 b3).2 ∧ (Lib.decodeN n b0 b1 b2 b3).2 ≤ n := by
  unfold Lib.decodeN
  repeat' split
  all_goals (refine ⟨?_, ?_⟩ <;> simp only <;> omega)

theorem wd_fits (s : ByteArray) (p : Nat) (h : p < s.size) : 1 ≤ wd s p ∧ p + wd s p ≤ s.size := by
  unfold wd
  rw [Lib.decode_at]
  have := decodeN_fits (s.size - p) (s.get! p).toNat (s.get! (p + 1)).toNat (s.get! (p + 2)).toNat (s.get! (p + 3)).toNat (by omega)
  omega

/-- The characters from p on. -/
def cf (s : ByteArray) (p : Nat) : List ByteArray :=
  if h : p < s.size then s.extract p (p + wd s p) :: cf s (p + wd s p) else []
termination_by s.size - p
decreasing_by have := wd_fits s p h; omega

theorem cf_lt {s : ByteArray} {p : Nat} (h : p < s.size) : cf s p = s.extract p (p + wd s p) :: cf s (p + wd s p) := by
  rw [cf]; simp [h]
theorem cf_end {s : ByteArray} {p : Nat} (h : ¬ p < s.size) : cf s p = [] := by
  rw [cf]; simp [h]

theorem cf_len (s : ByteArray) : ∀ (d p : Nat), s.size - p ≤ d → (cf s p).length ≤ s.size - p := by
  intro d
  induction d with
  | zero => intro p h; rw [cf_end (by omega)]; simp
  | succ d ih =>
    intro p h
    by_cases hp : p < s.size
    · have hw := wd_fits s p hp
      have := ih (p + wd s p) (by omega)
      rw [cf_lt hp]
      simp only [List.length_cons]
      omega
    · rw [cf_end hp]; simp
theorem cf_length_le (s : ByteArray) (p : Nat) : (cf s p).length ≤ s.size - p := cf_len s _ p (Nat.le_refl _)

/-- 'Sub' from its loop's head on: n characters are behind us, the next begins at p; 'begin' is where the part begins (the text's size: not yet). What comes out: begin and end. -/
def subGo (s : ByteArray) (from_ many : Int) (n : Nat) (b p : Nat) : Nat × Nat :=
  if h : p < s.size then
    let b' := if from_ ≤ (n + 1 : Int) ∧ b = s.size then p else b
    if from_ ≤ (n + 1 : Int) ∧ many ≤ (n + 1 : Int) - from_ then (b', p) else subGo s from_ many (n + 1) b' (p + wd s p)
  else (b, s.size)
termination_by s.size - p
decreasing_by have := wd_fits s p h; omega

theorem subGo_lt {s : ByteArray} {f m : Int} {n b p : Nat} (h : p < s.size) : subGo s f m n b p =
    if f ≤ (n + 1 : Int) ∧ m ≤ (n + 1 : Int) - f then (if f ≤ (n + 1 : Int) ∧ b = s.size then p else b, p) else subGo s f m (n + 1) (if f ≤ (n + 1 : Int) ∧ b = s.size then p else b) (p + wd s p) := by
  rw [subGo]; simp [h]
theorem subGo_end {s : ByteArray} {f m : Int} {n b p : Nat} (h : ¬ p < s.size) : subGo s f m n b p = (b, s.size) := by
  rw [subGo]; simp [h]

/-- 'whole' from its loop's head on. -/
def wholeGo (s t : ByteArray) (p : Nat) : Bool :=
  if h : p < s.size then
    if t.size ≤ p then decide (p = t.size) else if t.size < p + wd s p then false else wholeGo s t (p + wd s p)
  else true
termination_by s.size - p
decreasing_by have := wd_fits s p h; omega

theorem wholeGo_lt {s t : ByteArray} {p : Nat} (h : p < s.size) : wholeGo s t p = if t.size ≤ p then decide (p = t.size) else if t.size < p + wd s p then false else wholeGo s t (p + wd s p) := by
  rw [wholeGo]; simp [h]
theorem wholeGo_end {s t : ByteArray} {p : Nat} (h : ¬ p < s.size) : wholeGo s t p = true := by
  rw [wholeGo]; simp [h]
/-- 'whole'. -/
def whole (s t : ByteArray) : Bool := s.size == t.size || wholeGo s t 0

/-- Does a text begin with another one, byte by byte? -/
def pref (s t : ByteArray) : Bool := decide (t.size ≤ s.size) && ((s.extract 0 t.size).toList == t.toList)

/-- 'Index' from its loop's head on. -/
def indexGo (s t : ByteArray) (n p : Nat) : Nat :=
  if h : p < s.size then
    if pref (s.extract p s.size) t && whole (s.extract p s.size) t then n + 1 else indexGo s t (n + 1) (p + wd s p)
  else 0
termination_by s.size - p
decreasing_by have := wd_fits s p h; omega
theorem indexGo_lt {s t : ByteArray} {n p : Nat} (h : p < s.size) : indexGo s t n p = if pref (s.extract p s.size) t && whole (s.extract p s.size) t then n + 1 else indexGo s t (n + 1) (p + wd s p) := by
  rw [indexGo]; simp [h]
theorem indexGo_end {s t : ByteArray} {n p : Nat} (h : ¬ p < s.size) : indexGo s t n p = 0 := by
  rw [indexGo]; simp [h]

theorem wd_tail (s : ByteArray) (n p : Nat) : wd (s.extract n s.size) p = wd s (n + p) := by
  unfold wd
  rw [Lib.tail_decode]

end Go.Proofs.YtjjdejjhbfcfkaaDoor.Giv
