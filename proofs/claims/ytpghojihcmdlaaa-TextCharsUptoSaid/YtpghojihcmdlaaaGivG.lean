/- The function mapped of package text (what Lower and Upper call) comes to a map over the text's bytes. -/
import Derived.Test.YtpghojihcmdlaaaGivA
import Derived.Lib.ConvBytes
import Derived.Laws.IdiomStrings
namespace Go.Proofs.Ytpghojihcmdlaaa.Giv
open Go.RowKit
set_option linter.unusedVariables false
set_option linter.unusedSimpArgs false

def mapByte (f t b : Int) (c : UInt8) : UInt8 := if f ≤ (c.toNat : Int) ∧ (c.toNat : Int) ≤ t then UInt8.ofNat (((c.toNat : Int) + b) % 256).toNat else c
theorem mapByte_yes {f t b : Int} {c : UInt8} (h1 : f ≤ (c.toNat : Int)) (h2 : (c.toNat : Int) ≤ t) : ((mapByte f t b c).toNat : Int) = ((c.toNat : Int) + b) % 256 := by
  unfold mapByte
  rw [if_pos ⟨h1, h2⟩, UInt8.toNat_ofNat']
  omega
theorem mapByte_no {f t b : Int} {c : UInt8} (h : ¬ (f ≤ (c.toNat : Int) ∧ (c.toNat : Int) ≤ t)) : mapByte f t b c = c := by
  unfold mapByte
  rw [if_neg h]

/-- The bytes in memory behind k rounds: the first k are mapped. -/
def Half (s : ByteArray) (f t b : Int) (B k : Nat) (w : World) : Prop :=
  (∀ j, j < s.size → w.cell? ⟨B, j, none⟩ = some (.int .u8 (((if j < k then mapByte f t b (s.data.toList.getD j 0) else s.data.toList.getD j 0).toNat : Nat) : Int))) ∧ (∀ j, j < s.size → w.frozen? ⟨B, j, none⟩ = false)

theorem Half.zero (s : ByteArray) (f t b : Int) (w : World) : Half s f t b w.heap.size 0 (Lib.bytesWorld w 5 s) := by
  refine ⟨fun j hj => ?_, fun j hj => ?_⟩
  · rw [Lib.bytesWorld_cell w 5 s j hj]; simp
  · have hn := Lib.bytesWorld_at_new w 5 s
    have hz : s.size ≤ (Lib.bytesCells w 5 s).size := by
      unfold Lib.bytesCells
      rw [Array.size_append, Array.size_map]
      show s.data.size ≤ _
      omega
    simp only [World.frozen?, hn]
    simp
    omega
theorem Half.keep {s : ByteArray} {f t b : Int} {B k : Nat} {w : World} (h : Half s f t b B k w) (hk : k < s.size) (hn : ¬ (f ≤ ((s.data.toList.getD k 0).toNat : Int) ∧ ((s.data.toList.getD k 0).toNat : Int) ≤ t)) : Half s f t b B (k + 1) w := by
  refine ⟨fun j hj => ?_, h.2⟩
  rw [h.1 j hj]
  by_cases h1 : j < k
  · rw [if_pos h1, if_pos (by omega)]
  · by_cases h2 : j = k
    · subst h2
      rw [if_neg h1, if_pos (by omega), mapByte_no hn]
    · rw [if_neg h1, if_neg (by omega)]
theorem Half.store {s : ByteArray} {f t b : Int} {B k : Nat} {w : World} (h : Half s f t b B k w) (hk : k < s.size) (h1 : f ≤ ((s.data.toList.getD k 0).toNat : Int)) (h2 : ((s.data.toList.getD k 0).toNat : Int) ≤ t) : Half s f t b B (k + 1) (w.setCell ⟨B, k, none⟩ (.int .u8 ((((s.data.toList.getD k 0).toNat : Int) + b) % 256))) := by
  refine ⟨fun j hj => ?_, fun j hj => by rw [World.frozen?_setCell]; exact h.2 j hj⟩
  by_cases hjk : j = k
  · subst hjk
    rw [World.cell?_setCell_same _ _ _ (h.1 j hj), if_pos (by omega), mapByte_yes h1 h2]
  · rw [World.cell?_setCell_other w ⟨B, k, none⟩ ⟨B, j, none⟩ _ (by intro e; injection e with _ e2; exact hjk e2.symm), h.1 j hj]
    by_cases h3 : j < k
    · rw [if_pos h3, if_pos (by omega)]
    · rw [if_neg h3, if_neg (by omega)]

set_option maxRecDepth 1000000 in
theorem mapped_any (s : ByteArray) (f t b : Int) (w : World) (hs : s.size ≤ 9223372036854775807) (hb0 : -1000 ≤ b) (hb1 : b ≤ 1000) :
    Calls Try.prog 29 #[.string s, .int .u8 f, .int .u8 t, .int .i64 b] w fun e w' => e = .returned (.string ⟨(s.data.toList.map (mapByte f t b)).toArray⟩) ∧ Below w.heap.size w w' := by
  have hcv := Lib.run_convert_string_bytes (P := Try.prog) w 9 37 5 s Try.underlying9 Try.underlying37 Try.underlying5
  have hh0 := Half.zero s f t b w
  have hbw0 : Below w.heap.size w (Lib.bytesWorld w 5 s) := ⟨rfl, rfl, rfl, by rw [Lib.bytesWorld_size]; omega, fun k hk => Lib.bytesWorld_at_old w 5 s k hk⟩
  have hz : s.data.toList.length = s.size := Array.length_toList
  obtain ⟨X, hX⟩ : ∃ X, X = (⟨(s.data.toList.map (mapByte f t b)).toArray⟩ : ByteArray) := ⟨_, rfl⟩
  rw [← hX]
  have HX := Lib.hid hX
  have HZ := Lib.hid hz
  clear hX hz
  obtain ⟨W0, hW0⟩ : ∃ W0, W0 = Lib.bytesWorld w 5 s := ⟨_, rfl⟩
  obtain ⟨cap, hcap⟩ : ∃ cap, cap = grownCap w s.size 0 5 := ⟨_, rfl⟩
  rw [← hW0] at hcv hh0 hbw0
  rw [← hcap] at hcv
  have HH0 := Lib.hid hh0
  clear hW0 hcap hh0
  go_enter Try.func29, Try.ntmps29
  go_wp2
  go_loopw [16] (fun i wr => ∃ (k : Nat), i = .int .i64 k ∧ k ≤ s.size ∧ Hid (Half s f t b w.heap.size k wr) ∧ Below w.heap.size w wr) (fun i _ => s.size - (intOf i).toNat)
  case atStart => exact ⟨0, rfl, by omega, HH0, hbw0⟩
  case round =>
    obtain ⟨k, rfl, hk, HH, hbw⟩ := hrel
    by_cases hlt : k < s.size
    · obtain ⟨c, hc⟩ : ∃ c, c = (s.data.toList.getD k 0).toNat := ⟨_, rfl⟩
      have hcell : wr.cell? ⟨w.heap.size, k, none⟩ = some (.int .u8 (c : Int)) := by rw [HH.out.1 k hlt, if_neg (by omega), hc]
      have hfz : wr.frozen? ⟨w.heap.size, k, none⟩ = false := HH.out.2 k hlt
      have hcu : c < 256 := by rw [hc]; exact UInt8.toNat_lt _
      have HC := Lib.hid hc
      clear hc
      by_cases c1 : f ≤ (c : Int)
      · have c1b : decide (f ≤ (c : Int)) = true := decide_eq_true c1
        by_cases c2 : (c : Int) ≤ t
        · have c2b : decide ((c : Int) ≤ t) = true := decide_eq_true c2
          have hh2 := HH.out.store hlt (by rw [← HC.out]; exact c1) (by rw [← HC.out]; exact c2)
          rw [← HC.out] at hh2
          have HH2 := Lib.hid hh2
          clear hh2
          go_wp2
          go_roundw
          case rel => exact ⟨k + 1, by go_num, by omega, HH2, hbw.setCell (Nat.le_refl _) _⟩
          case measure => simp [intOf]; omega
        · have c2b : decide ((c : Int) ≤ t) = false := decide_eq_false c2
          have HH2 := Lib.hid (HH.out.keep hlt (by rw [← HC.out]; exact fun h => c2 h.2))
          go_wp2
          go_roundw
          case rel => exact ⟨k + 1, by go_num, by omega, HH2, hbw⟩
          case measure => simp [intOf]; omega
      · have c1b : decide (f ≤ (c : Int)) = false := decide_eq_false c1
        have HH2 := Lib.hid (HH.out.keep hlt (by rw [← HC.out]; exact fun h => c1 h.1))
        go_wp2
        go_roundw
        case rel => exact ⟨k + 1, by go_num, by omega, HH2, hbw⟩
        case measure => simp [intOf]; omega
    · have hbk := run_convert_bytes_back (P := Try.prog) wr 37 9 5 ⟨w.heap.size, 0, none⟩ cap (s.data.toList.map (mapByte f t b)) Try.underlying37 Try.underlying5 Try.underlying9 (fun j hj => by
        have hj2 : j < s.size := by rw [List.length_map, HZ.out] at hj; exact hj
        have := HH.out.1 j hj2
        rw [if_pos (by omega)] at this
        have e : (⟨w.heap.size, 0, none⟩ : Addr).add j = ⟨w.heap.size, j, none⟩ := by unfold Addr.add; by_cases hj0 : j = 0 <;> simp [hj0]
        rw [e, this]
        simp [List.getD, HZ.out, hj2])
      rw [List.length_map, HZ.out, ← HX.out] at hbk
      go_wp2
      go_ret
      exact ⟨rfl, hbw⟩

/-- 'mapped' as a whole. -/
def text_mapped.f (s : ByteArray) (f t b : Int) : Option ByteArray :=
  if s.size ≤ 9223372036854775807 ∧ -1000 ≤ b ∧ b ≤ 1000 then some ⟨(s.data.toList.map (mapByte f t b)).toArray⟩ else none
theorem text_mapped.calls (a0 : ByteArray) (a1 a2 a3 : Int) (r : ByteArray) (w : World) (h : text_mapped.f a0 a1 a2 a3 = some r) :
    Calls Try.prog 29 #[.string a0, .int .u8 a1, .int .u8 a2, .int .i64 a3] w fun e w' => e = .returned (.string r) ∧ Below w.heap.size w w' := by
  unfold text_mapped.f at h
  split at h
  · rename_i hs
    obtain rfl := Option.some.inj h
    exact mapped_any a0 a1 a2 a3 w hs.1 hs.2.1 hs.2.2
  · cases h

end Go.Proofs.Ytpghojihcmdlaaa.Giv
