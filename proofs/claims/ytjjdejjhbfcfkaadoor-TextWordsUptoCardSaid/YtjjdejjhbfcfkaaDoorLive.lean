/- The small living calls of the laws of chapter 02, and what their plain functions say of bytes. -/
import Derived.Test.YtjjdejjhbfcfkaaDoorGivD
import Derived.Test.YtjjdejjhbfcfkaaDoorWWords
namespace Go.Proofs.YtjjdejjhbfcfkaaDoor.Giv
open Go.RowKit Go.Proofs.YtjjdejjhbfcfkaaDoorW.PrintWords
set_option linter.unusedVariables false
set_option linter.unusedSimpArgs false

theorem live_len : text_count.f (⟨#[104, 195, 169, 255]⟩ : ByteArray) = some 3 := by
  have h0 : wd (⟨#[104, 195, 169, 255]⟩ : ByteArray) 0 = 1 := by decide +kernel
  have h1 : wd (⟨#[104, 195, 169, 255]⟩ : ByteArray) 1 = 2 := by decide +kernel
  have h2 : wd (⟨#[104, 195, 169, 255]⟩ : ByteArray) 3 = 1 := by decide +kernel
  unfold text_count.f
  rw [if_pos (by decide), cf_lt (by decide), h0, cf_lt (by decide), h1, cf_lt (by decide), h2, cf_end (by decide)]
  rfl
theorem live_sub : text_Sub.f (⟨#[104, 101, 108, 108, 111]⟩ : ByteArray) 2 3 = some ⟨#[101, 108, 108]⟩ := by
  have h0 : wd (⟨#[104, 101, 108, 108, 111]⟩ : ByteArray) 0 = 1 := by decide +kernel
  have h1 : wd (⟨#[104, 101, 108, 108, 111]⟩ : ByteArray) 1 = 1 := by decide +kernel
  have h2 : wd (⟨#[104, 101, 108, 108, 111]⟩ : ByteArray) 2 = 1 := by decide +kernel
  have h3 : wd (⟨#[104, 101, 108, 108, 111]⟩ : ByteArray) 3 = 1 := by decide +kernel
  have h4 : wd (⟨#[104, 101, 108, 108, 111]⟩ : ByteArray) 4 = 1 := by decide +kernel
  unfold text_Sub.f
  rw [if_pos (by decide), if_neg (by decide), subGo_lt (by decide), if_neg (by decide), if_neg (by decide), h0, subGo_lt (by decide), if_neg (by decide), if_pos (by decide), h1, subGo_lt (by decide), if_neg (by decide), if_neg (by decide), h2, subGo_lt (by decide), if_neg (by decide), if_neg (by decide), h3,
    subGo_lt (by decide), if_pos (by decide), if_neg (by decide)]
  decide +kernel
theorem live_index : text_Index.f (⟨#[98, 97, 110, 97, 110, 97]⟩ : ByteArray) (⟨#[110, 97]⟩ : ByteArray) = some 3 := by
  have h0 : wd (⟨#[98, 97, 110, 97, 110, 97]⟩ : ByteArray) 0 = 1 := by decide +kernel
  have h1 : wd (⟨#[98, 97, 110, 97, 110, 97]⟩ : ByteArray) 1 = 1 := by decide +kernel
  have h2 : wd (⟨#[98, 97, 110, 97, 110, 97]⟩ : ByteArray) 2 = 1 := by decide +kernel
  have hx : (⟨#[98, 97, 110, 97, 110, 97]⟩ : ByteArray).extract 2 6 = ⟨#[110, 97, 110, 97]⟩ := by decide +kernel
  have w0 : wd (⟨#[110, 97, 110, 97]⟩ : ByteArray) 0 = 1 := by decide +kernel
  have w1 : wd (⟨#[110, 97, 110, 97]⟩ : ByteArray) 1 = 1 := by decide +kernel
  have hw : whole (⟨#[110, 97, 110, 97]⟩ : ByteArray) (⟨#[110, 97]⟩ : ByteArray) = true := by
    unfold whole
    rw [wholeGo_lt (by decide), if_neg (by decide), w0, if_neg (by decide), wholeGo_lt (by decide), if_neg (by decide), w1, if_neg (by decide), wholeGo_lt (by decide), if_pos (by decide)]
    decide
  have hp : pref (⟨#[110, 97, 110, 97]⟩ : ByteArray) (⟨#[110, 97]⟩ : ByteArray) = true := by decide +kernel
  have p0 : pref ((⟨#[98, 97, 110, 97, 110, 97]⟩ : ByteArray).extract 0 6) (⟨#[110, 97]⟩ : ByteArray) = false := by decide +kernel
  have p1 : pref ((⟨#[98, 97, 110, 97, 110, 97]⟩ : ByteArray).extract 1 6) (⟨#[110, 97]⟩ : ByteArray) = false := by decide +kernel
  have hs : (⟨#[98, 97, 110, 97, 110, 97]⟩ : ByteArray).size = 6 := rfl
  unfold text_Index.f
  rw [if_pos (by decide), if_neg (by decide), indexGo_lt (by decide), hs, p0, Bool.false_and, if_neg (by decide), h0, indexGo_lt (by decide), hs, p1, Bool.false_and, if_neg (by decide), h1, indexGo_lt (by decide), hs, hx, hp, hw]
  rfl

theorem bt_nat {s : ByteArray} {i : Nat} (h : i < s.size) : bt s (i : Int) = ((s.data.toList.getD i 0).toNat : Int) := by
  have hz : s.data.toList.length = s.size := Array.length_toList
  unfold bt
  rw [dif_pos (by simpa using h)]
  simp [List.getD, hz, h]
  rfl
theorem drop_bt {s : ByteArray} {i : Nat} (h : i < s.size) : s.data.toList.drop i = s.data.toList.getD i 0 :: s.data.toList.drop (i + 1) := by
  have hz : s.data.toList.length = s.size := Array.length_toList
  rw [List.drop_eq_getElem_cons (by omega)]
  simp [List.getD, hz, h]
theorem drop_end {s : ByteArray} {i : Nat} (h : s.size ≤ i) : s.data.toList.drop i = [] := by
  have hz : s.data.toList.length = s.size := Array.length_toList
  exact List.drop_eq_nil_of_le (by omega)

end Go.Proofs.YtjjdejjhbfcfkaaDoor.Giv
