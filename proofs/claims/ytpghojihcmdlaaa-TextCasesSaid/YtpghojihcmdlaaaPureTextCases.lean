/- Lower and Upper are the reference's Shift, each of the other's answer too, for every text. -/
import Derived.Test.YtpghojihcmdlaaaPTextCasesx1
import Derived.Test.YtpghojihcmdlaaaLive
namespace Go.Proofs.Ytpghojihcmdlaaa.Pure
open Go.RowKit Go.Proofs.Ytpghojihcmdlaaa.PTextCases Go.Proofs.YtpghojihcmdlaaaW.PrintWords Go.Proofs.YtpghojihcmdlaaaW.PrintLast Go.Proofs.Ytpghojihcmdlaaa.Giv
set_option linter.unusedVariables false
set_option linter.unusedSimpArgs false

def shiftN (f t : Int) (up : Bool) (c : Int) : Int := if c ≥ f ∧ c ≤ t then (if up = true then (c - 32) % 256 else (c + 32) % 256) else c

theorem shift_step (s : ByteArray) (f t : Int) (up : Bool) (k i : Nat) (acc : List Int) (hs : s.size ≤ 140737488351232) (hi : i < s.size) (ha : acc.length = i) :
    aukletref02_Shift.l0 (k + 2) s f t up acc (i : Int) = aukletref02_Shift.l0 k s f t up (acc ++ [shiftN f t up (bt s i)]) ((i + 1 : Nat) : Int) := by
  have e : wrap64 ((i : Int) + 1) = ((i + 1 : Nat) : Int) := by unfold wrap64; omega
  have hl : acc.length < 140737488355328 := by omega
  simp only [aukletref02_Shift.l0]
  rw [if_pos (by omega), if_pos (by omega)]
  simp only [aukletref02_Shift.j1]
  rw [e]
  unfold shiftN
  by_cases h1 : bt s i ≥ f
  · by_cases h2 : bt s i ≤ t
    · cases up
      · simp [h1, h2, hl]
      · simp [h1, h2, hl]
    · simp [h1, h2, hl]
  · simp [h1, hl]

theorem shift_loop (s : ByteArray) (f t : Int) (up : Bool) (hs : s.size ≤ 140737488351232) : ∀ (d k i : Nat) (acc : List Int), s.size - i ≤ d → i ≤ s.size → acc.length = i → 2 * d + 1 ≤ k →
    aukletref02_Shift.l0 k s f t up acc (i : Int) = some (strOfNums (acc ++ (s.data.toList.drop i).map fun c => shiftN f t up (c.toNat : Int))) := by
  intro d
  induction d with
  | zero =>
    intro k i acc h1 h2 h3 hk
    obtain ⟨k, rfl⟩ : ∃ m, k = m + 1 := ⟨k - 1, by omega⟩
    simp only [aukletref02_Shift.l0]
    rw [if_neg (by omega), drop_end (by omega)]
    simp
  | succ d ih =>
    intro k i acc h1 h2 h3 hk
    by_cases hi : i < s.size
    · obtain ⟨k, rfl⟩ : ∃ m, k = m + 2 := ⟨k - 2, by omega⟩
      rw [shift_step s f t up k i acc hs hi h3, ih k (i + 1) _ (by omega) (by omega) (by simp [h3]) (by omega), drop_bt hi, bt_nat hi]
      simp
    · obtain ⟨k, rfl⟩ : ∃ m, k = m + 1 := ⟨k - 1, by omega⟩
      simp only [aukletref02_Shift.l0]
      rw [if_neg (by omega), drop_end (by omega)]
      simp

theorem low_fin : ∀ n : Fin 256, (mapByte 65 90 32 (UInt8.ofNat n.val)) = UInt8.ofNat (shiftN 65 90 false ((UInt8.ofNat n.val).toNat : Int)).toNat ∧ (mapByte 97 122 (-32) (UInt8.ofNat n.val)) = UInt8.ofNat (shiftN 97 122 true ((UInt8.ofNat n.val).toNat : Int)).toNat ∧
    mapByte 65 90 32 (mapByte 97 122 (-32) (UInt8.ofNat n.val)) = mapByte 65 90 32 (UInt8.ofNat n.val) ∧ mapByte 97 122 (-32) (mapByte 65 90 32 (UInt8.ofNat n.val)) = mapByte 97 122 (-32) (UInt8.ofNat n.val) := by
  decide +kernel
theorem low_eq (c : UInt8) : (mapByte 65 90 32 c) = UInt8.ofNat (shiftN 65 90 false (c.toNat : Int)).toNat ∧ (mapByte 97 122 (-32) c) = UInt8.ofNat (shiftN 97 122 true (c.toNat : Int)).toNat ∧
    mapByte 65 90 32 (mapByte 97 122 (-32) c) = mapByte 65 90 32 c ∧ mapByte 97 122 (-32) (mapByte 65 90 32 c) = mapByte 97 122 (-32) c := by
  have h := low_fin ⟨c.toNat, UInt8.toNat_lt c⟩
  simp only [UInt8.ofNat_toNat] at h
  exact h

theorem nums_str (l : List UInt8) (g : UInt8 → Int) (m : UInt8 → UInt8) (h : ∀ c, m c = UInt8.ofNat (g c).toNat) : strOfNums (l.map g) = ⟨(l.map m).toArray⟩ := by
  unfold strOfNums
  rw [List.map_map]
  congr 2
  exact List.map_congr_left (fun c _ => (h c).symm)

theorem lives_true : aukletlaw02_lives.f = some true := by
  unfold aukletlaw02_lives.f text_Len.f
  rw [live_len]; simp only [Option.bind_some]
  rw [if_pos trivial, live_sub]; simp only [Option.bind_some]
  rw [if_pos (by decide +kernel), live_index]; simp only [Option.bind_some]
  rfl

theorem TextCases : aukletlaw02_TextCases.Pure := by
  intro s hs
  refine ⟨2 * s.size + 1, ?_⟩
  have hA := shift_loop s 65 90 false hs s.size (2 * s.size + 1) 0 [] (by omega) (by omega) rfl (by omega)
  have hB := shift_loop s 97 122 true hs s.size (2 * s.size + 1) 0 [] (by omega) (by omega) rfl (by omega)
  simp only [List.drop_zero, List.nil_append] at hA hB
  rw [nums_str _ _ _ (fun c => (low_eq c).1)] at hA
  rw [nums_str _ _ _ (fun c => (low_eq c).2.1)] at hB
  have hA' : aukletref02_Shift.l0 (2 * s.size + 1) s 65 90 false [] 0 = _ := hA
  have hB' : aukletref02_Shift.l0 (2 * s.size + 1) s 97 122 true [] 0 = _ := hB
  have hz : s.data.toList.length = s.size := Array.length_toList
  have sz : ∀ m : UInt8 → UInt8, (⟨(s.data.toList.map m).toArray⟩ : ByteArray).size ≤ 9223372036854775807 := fun m => by
    show ((s.data.toList.map m).toArray).size ≤ _
    simp
    have : s.data.size = s.size := rfl
    omega
  unfold aukletlaw02_TextCases.f aukletref02_Shift.f text_Lower.f text_Upper.f text_mapped.f
  rw [if_pos (by omega), if_pos (by omega)]
  simp only [Option.bind_some]
  rw [hA', hB']
  simp only [Option.bind_some]
  rw [if_pos trivial, if_pos trivial, if_pos ⟨sz _, by omega, by omega⟩, if_pos ⟨sz _, by omega, by omega⟩]
  simp only [Option.bind_some, List.map_map]
  rw [if_pos, if_pos, lives_true]
  · rfl
  · congr 3
    exact List.map_congr_left (fun c _ => (low_eq c).2.2.2)
  · congr 3
    exact List.map_congr_left (fun c _ => (low_eq c).2.2.1)

end Go.Proofs.Ytpghojihcmdlaaa.Pure
