/- What dec.Parse makes of a text, as plain functions on its bytes. -/
import Derived.Test.YtfejcghnbimedaaDoorWWords
set_option linter.unusedVariables false
set_option linter.unusedSimpArgs false
namespace Go.Proofs.YtfejcghnbimedaaDoor.Giv
open Go.RowKit Go.Proofs.YtfejcghnbimedaaDoorW.PrintWords

/-- A byte of a text; 0 behind its end. -/
def by_ (s : ByteArray) (p : Nat) : Nat := (s.data.toList.getD p 0).toNat
theorem by_lt (s : ByteArray) (p : Nat) : by_ s p < 256 := UInt8.toNat_lt _
theorem by_get {s : ByteArray} {p : Nat} (h : p < s.size) : (s[p]'h).toNat = by_ s p := by
  have hz : s.data.toList.length = s.size := Array.length_toList
  unfold by_
  simp [List.getD, hz, h]
  rfl
def isD (s : ByteArray) (p : Nat) : Bool := decide (p < s.size) && decide (48 ≤ by_ s p) && decide (by_ s p ≤ 57)
def isB (s : ByteArray) (p : Nat) : Bool := decide (p < s.size) && (by_ s p == 32 || by_ s p == 9 || by_ s p == 10)
/-- Behind the blanks. -/
def sk (s : ByteArray) (p : Nat) : Nat :=
  if isB s p = true then sk s (p + 1) else p
termination_by s.size - p
decreasing_by rename_i h; simp [isB] at h; omega
theorem sk_yes {s : ByteArray} {p : Nat} (h : isB s p = true) : sk s p = sk s (p + 1) := by rw [sk, if_pos h]
theorem sk_no {s : ByteArray} {p : Nat} (h : isB s p = false) : sk s p = p := by rw [sk, if_neg (by simp [h])]

abbrev St := Int × Bool
def addw (st : St) (x : Int) : St := ((st.1 + x) % 18446744073709551616, st.2 || decide (18446744073709551616 ≤ st.1 + x))
def mulT (st : St) : St := (st.1 * 10 % 18446744073709551616, st.2 || decide (18446744073709551616 ≤ st.1 * 10))
def dgt (s : ByteArray) (p : Nat) : Int := (by_ s p : Int) - 48
/-- The digits ahead of a point: where they end, what they come to. -/
def ahead (s : ByteArray) (p : Nat) (st : St) : Nat × St :=
  if isD s p = true then ahead s (p + 1) (addw (mulT st) (dgt s p * 1000000)) else (p, st)
termination_by s.size - p
decreasing_by rename_i h; simp [isD] at h; omega
theorem ahead_yes {s : ByteArray} {p : Nat} {st : St} (h : isD s p = true) : ahead s p st = ahead s (p + 1) (addw (mulT st) (dgt s p * 1000000)) := by rw [ahead, if_pos h]
theorem ahead_no {s : ByteArray} {p : Nat} {st : St} (h : isD s p = false) : ahead s p st = (p, st) := by rw [ahead, if_neg (by simp [h])]
/-- The digits behind a point. -/
def behind (s : ByteArray) (p : Nat) (w : Int) (st : St) : Nat × St :=
  if isD s p = true then behind s (p + 1) (w / 10) (addw st (dgt s p * (w / 10))) else (p, st)
termination_by s.size - p
decreasing_by rename_i h; simp [isD] at h; omega
theorem behind_yes {s : ByteArray} {p : Nat} {w : Int} {st : St} (h : isD s p = true) : behind s p w st = behind s (p + 1) (w / 10) (addw st (dgt s p * (w / 10))) := by rw [behind, if_pos h]
theorem behind_no {s : ByteArray} {p : Nat} {w : Int} {st : St} (h : isD s p = false) : behind s p w st = (p, st) := by rw [behind, if_neg (by simp [h])]

theorem isD_lt {s : ByteArray} {p : Nat} (h : isD s p = true) : p < s.size ∧ 48 ≤ by_ s p ∧ by_ s p ≤ 57 := by
  simp [isD] at h; omega
theorem ahead_le (s : ByteArray) : ∀ (d p : Nat) (st : St), s.size - p ≤ d → p ≤ (ahead s p st).1 ∧ (p ≤ s.size → (ahead s p st).1 ≤ s.size) := by
  intro d
  induction d with
  | zero =>
    intro p st h
    cases hd : isD s p with
    | true => have := isD_lt hd; omega
    | false => rw [ahead_no hd]; exact ⟨Nat.le_refl _, fun h => h⟩
  | succ d ih =>
    intro p st h
    cases hd : isD s p with
    | true => have := isD_lt hd; rw [ahead_yes hd]; have := ih (p + 1) (addw (mulT st) (dgt s p * 1000000)) (by omega); omega
    | false => rw [ahead_no hd]; exact ⟨Nat.le_refl _, fun h => h⟩

/-- A size with a sign, or the error. -/
def sgn (n : Int) (minus : Bool) : Int × Int := if minus = true then (if n ≤ 9223372036854775808 then (-n, 0) else (0, 10)) else (if n ≤ 9223372036854775807 then (n, 0) else (0, 10))

def isMinus (s : ByteArray) (p : Nat) : Bool := decide (p < s.size) && by_ s p == 45
def isPlus (s : ByteArray) (p : Nat) : Bool := decide (p < s.size) && by_ s p == 43
def isDot (s : ByteArray) (p : Nat) : Bool := decide (p < s.size) && by_ s p == 46
/-- Where the digits begin. -/
def from_ (s : ByteArray) : Nat := if (isMinus s (sk s 0) || isPlus s (sk s 0)) = true then sk s 0 + 1 else sk s 0
/-- The digits behind the blanks and the sign: where they end, what they come to, how many there are. -/
def digits (s : ByteArray) : Nat × St × Nat :=
  let a := ahead s (from_ s) (0, false)
  if (isDot s a.1 && (decide (a.1 ≠ from_ s) || isD s (a.1 + 1))) = true then
    let b := behind s (a.1 + 1) 1000000 a.2
    (b.1, b.2, (a.1 - from_ s) + (b.1 - (a.1 + 1)))
  else (a.1, a.2, a.1 - from_ s)
def parseV (s : ByteArray) : Int × Int × Int :=
  let d := digits s
  if d.2.2 = 0 then (0, 0, 0)
  else if d.2.1.2 = true then (0, (d.1 : Int), 10)
  else ((sgn d.2.1.1 (isMinus s (sk s 0))).1, (d.1 : Int), (sgn d.2.1.1 (isMinus s (sk s 0))).2)

end Go.Proofs.YtfejcghnbimedaaDoor.Giv
