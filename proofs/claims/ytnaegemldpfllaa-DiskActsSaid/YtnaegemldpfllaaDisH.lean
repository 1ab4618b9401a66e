/- The law DiskWhole: what it reads, and its plain words. -/
import Derived.Test.YtnaegemldpfllaaDisL
namespace Go.Proofs.Ytnaegemldpfllaa.Dis
open Go.RowKit Go.Proofs.YtnaegemldpfllaaW.PrintWords Go.Proofs.YtnaegemldpfllaaW.PrintLast Go.Proofs.YtnaegemldpfllaaW.PrintMore Go.Maps
set_option linter.unusedVariables false
set_option linter.unusedSimpArgs false
abbrev Act_ := Int × Int × List Int × List Bool
def actK : Kd Act_ := Kd.pair (Kd.int .i64) (Kd.pair (Kd.int .i64) (Kd.pair (Kd.slice 5 (Kd.int .u8)) (Kd.slice 4 Kd.bool)))
def act0 : Act_ := (0, 0, [], [])
theorem act_at {w : World} {A : Option Addr} {n : Nat} {l : List Act_} (h : actK.C w A n l) (k : Nat) (hk : k < n) :
    ∃ ad AB cB, A = some ad ∧ w.cell? (ad.add (k * 4 + 1)) = some (.int .i64 (l.getD k act0).2.1) ∧ w.cell? (ad.add (k * 4 + 2)) = some (.slice AB (l.getD k act0).2.2.1.length cB) ∧ (l.getD k act0).2.2.1.length ≤ cB ∧ Kd.C (Kd.int .u8) w AB (l.getD k act0).2.2.1.length (l.getD k act0).2.2.1 := by
  obtain ⟨ad, c, hA, hl, hK, hc⟩ := Kd.C_get h act0 (k : Int) (by omega) (by omega)
  simp only [Int.toNat_natCast] at hK hc
  have hs : actK.sz = 4 := rfl
  rw [hs] at hc
  obtain ⟨c0, c1, rfl, h0, d0, d1, rfl, h1, e0, e1, rfl, h2, h3⟩ := hK
  obtain ⟨AB, cB, rfl, hle, hC⟩ := h2
  obtain rfl : c0 = [.int .i64 _] := h0
  obtain rfl : d0 = [.int .i64 _] := h1
  exact ⟨ad, AB, cB, hA, hc 1 _ rfl, hc 2 _ rfl, hle, hC⟩
def and7 (x : Int) : Int := IntKind.i64.wrap (BitVec.ofInt 64 x &&& BitVec.ofInt 64 7).toNat
theorem and7_ge (x : Int) : 0 ≤ and7 x ∧ and7 x < 8 := by
  have h : (BitVec.ofInt 64 x &&& BitVec.ofInt 64 7).toNat ≤ 7 := by
    rw [BitVec.toNat_and]
    exact Nat.and_le_right
  unfold and7
  generalize (BitVec.ofInt 64 x &&& BitVec.ofInt 64 7).toNat = m at h
  have : m = 0 ∨ m = 1 ∨ m = 2 ∨ m = 3 ∨ m = 4 ∨ m = 5 ∨ m = 6 ∨ m = 7 := by omega
  rcases this with rfl | rfl | rfl | rfl | rfl | rfl | rfl | rfl <;> decide
def put1 (d : D) (a : Act_) : D := (writeD d (and7 a.2.1) (a.2.2.1.take 512)).1
def puts (d : D) (l : List Act_) : D := l.foldl put1 d
structure Live (d : D) (c : Nat) : Prop where
  n : d.n = 8
  left : d.left = -1
  dead : d.dead = false
  cnt : d.cnt = c
theorem callD_live {d : D} {c : Nat} (h : Live d c) : callD d = (d, 0) := by
  unfold callD
  rw [if_neg (by rw [h.left, h.dead]; decide), if_neg (by rw [h.left]; decide)]
theorem write_live {d : D} {c : Nat} (h : Live d c) (a : Act_) : writeD d (and7 a.2.1) (a.2.2.1.take 512) = ({ d with since := d.since ++ [(and7 a.2.1, pad (a.2.2.1.take 512))], cnt := d.cnt + 1 }, 0) := by
  have h7 := and7_ge a.2.1
  unfold writeD
  rw [callD_live h]
  have ht : thereD d (and7 a.2.1) = 0 := by
    unfold thereD
    rw [if_neg (by omega), if_neg (by rw [h.n]; omega)]
  simp only [ht]
  rw [if_neg (by simp), if_neg (by simp), if_neg (by rw [List.length_take]; omega)]
theorem put1_live {d : D} {c : Nat} (h : Live d c) (a : Act_) : Live (put1 d a) (c + 1) := by
  unfold put1
  rw [write_live h]
  exact ⟨h.n, h.left, h.dead, by show d.cnt + 1 = _; rw [h.cnt]⟩
theorem puts_live {d : D} {c : Nat} (h : Live d c) (l : List Act_) : Live (puts d l) (c + l.length) := by
  induction l generalizing d c with
  | nil => exact h
  | cons a l ih =>
    have := ih (put1_live h a)
    rw [List.length_cons, show c + (l.length + 1) = c + 1 + l.length by omega]
    exact this
theorem puts_take (d : D) (l : List Act_) (k : Nat) (hk : k < l.length) : puts d (l.take (k + 1)) = put1 (puts d (l.take k)) (l.getD k act0) := by
  unfold puts
  have : l.take (k + 1) = l.take k ++ [l.getD k act0] := by
    rw [List.getD_eq_getElem?_getD, List.getElem?_eq_getElem hk]
    exact (List.take_append_getElem hk).symm
  rw [this, List.foldl_append]
  rfl
theorem flush_live {d : D} {c : Nat} (h : Live d c) : flushD d = (keepsD d (fun _ => true), 0) := by
  unfold flushD
  rw [callD_live h]
  rfl
theorem keeps_live {d : D} {c : Nat} (h : Live d c) (F : Nat → Bool) : Live (keepsD d F) c := ⟨h.n, h.left, h.dead, h.cnt⟩
def D0 : D := newD 8
theorem D0_live : Live D0 0 := ⟨by kernel_rfl, by kernel_rfl, by kernel_rfl, by kernel_rfl⟩
theorem D0q : newD 8 = D0 := rfl
attribute [irreducible] D0
/-- The disk when the first writes are on it. -/
def D1 (l1 : List Act_) : D := keepsD (puts D0 (l1.take 20)) (fun _ => true)
theorem D1_live (l1 : List Act_) : Live (D1 l1) (l1.take 20).length := by
  have := puts_live D0_live (l1.take 20)
  rw [Nat.zero_add] at this
  exact keeps_live this _
/-- The disk when the second writes are on it. -/
def D2 (l1 l2 : List Act_) : D := puts (D1 l1) (l2.take 20)
theorem D2_live (l1 l2 : List Act_) : Live (D2 l1 l2) ((l1.take 20).length + (l2.take 20).length) := puts_live (D1_live l1) _
/-- The disk behind the crash. -/
def D3 (l1 l2 : List Act_) (l3 : List Bool) : D := crashD (D2 l1 l2) l3
theorem IsD.far {base g gw j : Nat} {w : World} {d : D} {cs : Array Value} (h : IsD base w g d) (hw : w.heap[gw]? = some (.cells cs 33 (0, 0))) (u : Value) : IsD base (w.setCell ⟨gw, j, none⟩ u) g d := by
  obtain ⟨hok, b, v, m, hb, hg, hbb, hm, hM, hR⟩ := h
  have hbt : ∃ es c, w.heap[b]? = some (.map es c) := by obtain ⟨_, D, _, ⟨es, c, h, _⟩, _⟩ := hM; exact ⟨es, c, h⟩
  obtain ⟨es, c, hbt⟩ := hbt
  have hne : b ≠ gw := by rintro rfl; rw [hw] at hbt; injection hbt with hbt; cases hbt
  have hne2 : g ≠ gw := by rintro rfl; rw [hw] at hb; injection hb with hb; injection hb with _ ht; exact absurd ht (by decide)
  exact ⟨hok, b, v, m, (Below.heap_setCell w ⟨gw, j, none⟩ u g hne2).trans hb, hg, hbb, hm, hM.kept (row := some gw) ⟨rfl, rfl, rfl, by simp [World.setCell], fun i _ hi => Below.heap_setCell _ _ _ _ (fun e => hi (by rw [e]))⟩ (fun e => hne (by injection e)), Kd.R_far (Kd.R_mono (ok' := fun k => k ≠ gw) (Kd.R_types hR hw (by decide)) (fun k hk => hk.2)) (fun k hk => hk) _ |> fun h => Kd.R_mono h (fun _ _ => trivial)⟩
def wasS (d : D) (k j : Nat) : ByteArray := if j < k then strOfNums (bytesD d (j : Int)) else ByteArray.empty
/-- What the law keeps of the first k sectors. -/
def wasC (d : D) (k : Nat) : Array Value := #[.string (wasS d k 0), .string (wasS d k 1), .string (wasS d k 2), .string (wasS d k 3), .string (wasS d k 4), .string (wasS d k 5), .string (wasS d k 6), .string (wasS d k 7)]
theorem wasC_at (d : D) (k j : Nat) (hj : j < 8) : (wasC d k)[j]? = some (.string (wasS d k j)) := by
  have : j = 0 ∨ j = 1 ∨ j = 2 ∨ j = 3 ∨ j = 4 ∨ j = 5 ∨ j = 6 ∨ j = 7 := by omega
  rcases this with rfl | rfl | rfl | rfl | rfl | rfl | rfl | rfl <;> rfl
theorem wasS_lt (d : D) {k j : Nat} (h : j < k) : wasS d k j = strOfNums (bytesD d (j : Int)) := if_pos h
theorem wasS_ge (d : D) {k j : Nat} (h : ¬ j < k) : wasS d k j = ByteArray.empty := if_neg h
theorem wasS_ne (d : D) {k j : Nat} (h : j ≠ k) : wasS d (k + 1) j = wasS d k j := by
  unfold wasS
  by_cases hjk : j < k
  · rw [if_pos hjk, if_pos (by omega)]
  · rw [if_neg hjk, if_neg (by omega)]
theorem wasC_set (d : D) (k : Nat) (hk : k < 8) : (wasC d k).setIfInBounds k (.string (strOfNums (bytesD d (k : Int)))) = wasC d (k + 1) := by
  apply Array.ext
  · simp [wasC]
  · intro i h1 h2
    have hi : i < 8 := by simpa [wasC] using h2
    have e2 := wasC_at d (k + 1) i hi
    have e1 := wasC_at d k i hi
    rw [Array.getElem?_eq_getElem h2] at e2
    have h3 : i < (wasC d k).size := by simpa [wasC] using hi
    rw [Array.getElem?_eq_getElem h3] at e1
    rw [Array.getElem_setIfInBounds h3]
    by_cases hik : k = i
    · subst hik
      rw [if_pos rfl]
      injection e2 with e2
      rw [e2, wasS_lt d (by omega)]
    · rw [if_neg hik]
      injection e1 with e1
      injection e2 with e2
      rw [e1, e2, wasS_ne d (fun e => hik e.symm)]
end Go.Proofs.Ytnaegemldpfllaa.Dis
