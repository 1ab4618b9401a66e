/- 'Sub' of a text is the characters whose places are asked for, joined; the first ones and those behind are the text. -/
import Derived.Test.YtpghojihcmdlaaaChars
import Derived.Test.YtpghojihcmdlaaaGivD
set_option linter.unusedVariables false
set_option linter.unusedSimpArgs false
namespace Go.Proofs.Ytpghojihcmdlaaa.Giv

/-- Is a place asked for? -/
def Sel (f m : Int) (pl : Nat) : Prop := f ≤ (pl : Int) ∧ (pl : Int) - f < m
instance (f m : Int) (pl : Nat) : Decidable (Sel f m pl) := inferInstanceAs (Decidable (_ ∧ _))
/-- The characters of L, n of which are behind us, that are asked for, joined. -/
def selcat (f m : Int) : Nat → List ByteArray → ByteArray
  | _, [] => ByteArray.empty
  | n, c :: L => if Sel f m (n + 1) then c ++ selcat f m (n + 1) L else selcat f m (n + 1) L
def join : List ByteArray → ByteArray
  | [] => ByteArray.empty
  | c :: L => c ++ join L

theorem selcat_none (f m : Int) : ∀ (L : List ByteArray) (n : Nat), m ≤ (n : Int) + 1 - f → selcat f m n L = ByteArray.empty
  | [], _, _ => rfl
  | c :: L, n, h => by
    rw [selcat, if_neg (by unfold Sel; omega)]
    exact selcat_none f m L (n + 1) (by omega)

theorem ext_app (s : ByteArray) {a b c : Nat} (h1 : a ≤ b) (h2 : b ≤ c) : s.extract a b ++ s.extract b c = s.extract a c := by
  rw [ByteArray.extract_append_extract]
  congr 1 <;> omega

theorem sub_begun (s : ByteArray) (f m : Int) : ∀ (d n b p : Nat), s.size - p ≤ d → p ≤ s.size → b ≤ p → b < s.size → f ≤ (n : Int) + 1 → (m ≤ (n : Int) + 1 - f ∨ m > (n : Int) + 1 - f) →
    cutOf s (subGo s f m n b p) = s.extract b p ++ selcat f m n (cf s p) := by
  intro d
  induction d with
  | zero =>
    intro n b p h1 h2 h3 h4 h5 _
    rw [subGo_end (by omega), cf_end (by omega)]
    have : p = s.size := by omega
    unfold cutOf
    rw [if_neg (by simp only; omega), this, selcat, ByteArray.append_empty]
  | succ d ih =>
    intro n b p h1 h2 h3 h4 h5 _
    by_cases hp : p < s.size
    · have hw := wd_fits s p hp
      rw [subGo_lt hp, cf_lt hp]
      have hb : ¬ (f ≤ (n : Int) + 1 ∧ b = s.size) := fun h => by omega
      rw [if_neg hb]
      by_cases c : m ≤ (n : Int) + 1 - f
      · rw [if_pos ⟨h5, c⟩, selcat_none f m _ n c]
        unfold cutOf
        rw [if_neg (by simp only; omega), ByteArray.append_empty]
      · rw [if_neg (fun h => c h.2), ih (n + 1) b _ (by omega) (by omega) (by omega) h4 (by omega) (by omega), selcat, if_pos (by unfold Sel; omega), ← ByteArray.append_assoc, ext_app s h3 (by omega)]
    · rw [subGo_end hp, cf_end hp]
      have : p = s.size := by omega
      unfold cutOf
      rw [if_neg (by simp only; omega), this, selcat, ByteArray.append_empty]

theorem sub_start (s : ByteArray) (f m : Int) : ∀ (d n p : Nat), s.size - p ≤ d → p ≤ s.size → cutOf s (subGo s f m n s.size p) = selcat f m n (cf s p) := by
  intro d
  induction d with
  | zero =>
    intro n p h1 h2
    rw [subGo_end (by omega), cf_end (by omega)]
    unfold cutOf
    rw [if_neg (by simp only; omega), selcat]
    simp
  | succ d ih =>
    intro n p h1 h2
    by_cases hp : p < s.size
    · have hw := wd_fits s p hp
      rw [subGo_lt hp, cf_lt hp]
      by_cases h5 : f ≤ (n : Int) + 1
      · have e : (if f ≤ (n : Int) + 1 ∧ s.size = s.size then p else s.size) = p := if_pos ⟨h5, rfl⟩
        rw [e]
        by_cases c : m ≤ (n : Int) + 1 - f
        · rw [if_pos ⟨h5, c⟩, selcat_none f m _ n c]
          unfold cutOf
          rw [if_neg (by simp only; omega)]
          simp
        · rw [if_neg (fun h => c h.2), sub_begun s f m s.size (n + 1) p _ (by omega) (by omega) (by omega) hp (by omega) (by omega), selcat, if_pos (by unfold Sel; omega)]
      · rw [if_neg (fun h => h5 h.1), if_neg (fun h => h5 h.1), ih (n + 1) _ (by omega) (by omega), selcat, if_neg (by unfold Sel; omega)]
    · rw [subGo_end hp, cf_end hp]
      unfold cutOf
      rw [if_neg (by simp only; omega), selcat]
      simp

theorem sub_spec (s : ByteArray) (f m : Int) : (if m < 1 then (⟨#[]⟩ : ByteArray) else cutOf s (subGo s f m 0 s.size 0)) = selcat f m 0 (cf s 0) := by
  by_cases h : m < 1
  · rw [if_pos h]
    have : ∀ (L : List ByteArray) (n : Nat), selcat f m n L = ByteArray.empty := by
      intro L
      induction L with
      | nil => intro n; rfl
      | cons c L ih => intro n; rw [selcat, if_neg (by unfold Sel; omega)]; exact ih _
    rw [this]; rfl
  · rw [if_neg h]
    exact sub_start s f m s.size 0 0 (by omega) (by omega)

theorem join_cf (s : ByteArray) : ∀ (d p : Nat), s.size - p ≤ d → p ≤ s.size → join (cf s p) = s.extract p s.size := by
  intro d
  induction d with
  | zero =>
    intro p h1 h2
    rw [cf_end (by omega), join]
    have : p = s.size := by omega
    rw [this]; simp
  | succ d ih =>
    intro p h1 h2
    by_cases hp : p < s.size
    · have hw := wd_fits s p hp
      rw [cf_lt hp, join, ih _ (by omega) (by omega), ext_app s (by omega) (by omega)]
    · rw [cf_end hp, join]
      have : p = s.size := by omega
      rw [this]; simp
theorem join_all (s : ByteArray) : join (cf s 0) = s := by
  rw [join_cf s s.size 0 (by omega) (by omega)]
  simp

theorem parts (m : Int) (h0 : 0 ≤ m) (B : Int) (L : List ByteArray) : ∀ n : Nat, (n : Int) + L.length ≤ B → selcat 1 m n L ++ selcat (1 + m) B n L = join L := by
  induction L with
  | nil => intro n h; simp [selcat, join]
  | cons c L ih =>
    intro n h
    simp only [List.length_cons] at h
    have ih := ih (n + 1) (by omega)
    rw [selcat, selcat, join]
    by_cases hm : (n : Int) + 1 ≤ m
    · rw [if_pos (by unfold Sel; omega), if_neg (by unfold Sel; omega), ByteArray.append_assoc, ih]
    · rw [if_neg (by unfold Sel; omega), if_pos (by unfold Sel; omega)]
      rw [selcat_none 1 m L (n + 1) (by omega), ByteArray.empty_append] at ih ⊢
      rw [ih]

theorem selcat_size (f m : Int) : ∀ (L : List ByteArray) (n : Nat), (selcat f m n L).size ≤ (join L).size
  | [], _ => Nat.le_refl _
  | c :: L, n => by
    have ih := selcat_size f m L (n + 1)
    rw [selcat, join, ByteArray.size_append]
    split
    · rw [ByteArray.size_append]; omega
    · omega

end Go.Proofs.Ytpghojihcmdlaaa.Giv
