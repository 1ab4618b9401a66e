/- The function Show of package dec comes to the plain function showV. -/
import Derived.Test.YtfejcghnbimedaaDoorGivP
import Derived.Deep.DeepCutAuto
import Derived.Laws.IdiomStrings
namespace Go.Proofs.YtfejcghnbimedaaDoor.Giv
open Go.RowKit Go.Proofs.YtfejcghnbimedaaDoor.PDecB Go.Proofs.YtfejcghnbimedaaDoorW.PrintWords
set_option linter.unusedVariables false
set_option linter.unusedSimpArgs false

/-- How far a number is from 0. -/
def absV (a : Int) : Int := if a < 0 then -a else a
theorem size_f (a : Int) (h0 : -9223372036854775808 ≤ a) (h1 : a ≤ 9223372036854775807) : dec_size.f a = some (absV a) := by
  unfold dec_size.f absV
  by_cases h : a < 0
  · rw [if_pos h, if_pos h, w64, w64]; congr 1; omega
  · rw [if_neg h, if_neg h, w64]; congr 1; omega
theorem size_any (a : Int) (w : World) (h0 : -9223372036854775808 ≤ a) (h1 : a ≤ 9223372036854775807) : Calls Tryd.prog 43 #[.int .i64 a] w fun e w' => e = .returned (.int .u64 (absV a)) ∧ Drawn0 w w' := dec_size.calls a _ w (size_f a h0 h1)

/-- The bytes that were written, from place t on, behind them the end. -/
def Buf (B t : Nat) (L : List Int) (w : World) : Prop :=
  w.cell? ⟨B + 1, 0, none⟩ = some (.int .i64 (t : Int)) ∧ w.frozen? ⟨B + 1, 0, none⟩ = false ∧ t + L.length = 24 ∧ (∀ j, j < 24 → ∃ v : Int, w.cell? ⟨B, j, none⟩ = some (.int .u8 v)) ∧ (∀ j, j < 24 → w.frozen? ⟨B, j, none⟩ = false) ∧
  (∀ j, j < L.length → w.cell? ⟨B, t + j, none⟩ = some (.int .u8 (L.getD j 0))) ∧ B + 1 < w.heap.size

theorem Buf.put {B t : Nat} {L : List Int} {w : World} (h : Buf B (t + 1) L w) (c : Int) : Buf B t (c :: L) ((w.setCell ⟨B + 1, 0, none⟩ (.int .i64 (t : Int))).setCell ⟨B, t, none⟩ (.int .u8 c)) := by
  obtain ⟨h1, h2, h3, h4, h5, h6, h7⟩ := h
  have ne1 : ∀ j, (⟨B + 1, 0, none⟩ : Addr) ≠ ⟨B, j, none⟩ := fun j e => by injection e with e1; omega
  refine ⟨?_, ?_, ?_, ?_, ?_, ?_, ?_⟩
  · rw [World.cell?_setCell_other _ _ _ _ (ne1 t).symm]
    exact World.cell?_setCell_same _ _ _ h1
  · rw [World.frozen?_setCell, World.frozen?_setCell]; exact h2
  · simp; omega
  · intro j hj
    by_cases hjt : j = t
    · subst hjt
      refine ⟨c, ?_⟩
      obtain ⟨v, hv⟩ := h4 j hj
      exact World.cell?_setCell_same _ _ _ (by rw [World.cell?_setCell_other _ _ _ _ (ne1 j)]; exact hv)
    · obtain ⟨v, hv⟩ := h4 j hj
      refine ⟨v, ?_⟩
      rw [World.cell?_setCell_other _ _ _ _ (by intro e; injection e with _ e2; exact hjt e2.symm), World.cell?_setCell_other _ _ _ _ (ne1 j)]
      exact hv
  · intro j hj
    rw [World.frozen?_setCell, World.frozen?_setCell]; exact h5 j hj
  · intro j hj
    simp only [List.length_cons] at hj
    cases j with
    | zero =>
      obtain ⟨v, hv⟩ := h4 t (by omega)
      exact World.cell?_setCell_same _ ⟨B, t, none⟩ (.int .u8 c) (u := .int .u8 v) (by rw [World.cell?_setCell_other _ _ _ _ (ne1 t)]; exact hv)
    | succ j =>
      rw [World.cell?_setCell_other _ _ _ _ (by intro e; injection e with _ e2; omega), World.cell?_setCell_other _ _ _ _ (ne1 _)]
      have := h6 j (by omega)
      rw [show t + (j + 1) = t + 1 + j by omega, this]
      rfl
  · simpa [World.setCell] using h7

set_option maxRecDepth 1000000 in
theorem put_any (B t : Nat) (L : List Int) (c : Int) (w : World) (h : Buf B (t + 1) L w) :
    Calls Tryd.prog 44 #[.int .u8 c, .pointer (some ⟨B + 1, 0, none⟩), .pointer (some ⟨B, 0, none⟩)] w fun e w' => e = .returned (.tuple #[]) ∧ Buf B t (c :: L) w' ∧ Below B w w' := by
  have HB := Lib.hid h
  obtain ⟨h1, h2, h3, h4, h5, h6, h7⟩ := h
  obtain ⟨v, hv⟩ := h4 t (by omega)
  have z := h5 t (by omega)
  have ht : t < 24 := by omega
  have e1 : ((t + 1 : Nat) : Int) = (t : Int) + 1 := by omega
  rw [e1] at h1
  clear h3 h4 h5 h6 e1
  go_enter Tryd.func44, Tryd.ntmps44
  go_wp2
  go_end0
  exact ⟨rfl, HB.out.put c, (Below.refl _ _).setCell (p := ⟨B + 1, 0, none⟩) (by simp) _ |>.setCell (p := ⟨B, t, none⟩) (Nat.le_refl _) _⟩

/-- The digits behind the point: so many rounds from n on; what is left, whether one was written, the bytes. -/
def fracGo : Nat → Int → Bool → List Int → Int × Bool × List Int
  | 0, n, b, L => (n, b, L)
  | k + 1, n, b, L => if b = true ∨ 0 < n % 10 then fracGo k (n / 10) true ((48 + n % 10) :: L) else fracGo k (n / 10) false L
/-- The digits ahead of the point. -/
def intGo (n : Int) (L : List Int) : List Int :=
  if h : n / 10 ≤ 0 then (48 + n % 10) :: L else intGo (n / 10) ((48 + n % 10) :: L)
termination_by n.toNat
decreasing_by omega
theorem intGo_end {n : Int} {L : List Int} (h : n / 10 ≤ 0) : intGo n L = (48 + n % 10) :: L := by rw [intGo, dif_pos h]
theorem intGo_go {n : Int} {L : List Int} (h : ¬ n / 10 ≤ 0) : intGo n L = intGo (n / 10) ((48 + n % 10) :: L) := by rw [intGo, dif_neg h]
def showL (a : Int) : List Int :=
  let r := fracGo 6 (absV a) false []
  let L := intGo r.1 (if r.2.1 = true then 46 :: r.2.2 else r.2.2)
  if a < 0 then 45 :: L else L
def showV (a : Int) : ByteArray := ⟨((showL a).map fun n => UInt8.ofNat n.toNat).toArray⟩

def pT : Nat → Int
  | 0 => 1
  | n + 1 => 10 * pT n
theorem pT_nonneg : ∀ n, 0 ≤ pT n
  | 0 => by simp [pT]
  | n + 1 => by have := pT_nonneg n; simp only [pT]; omega

def Small (L : List Int) : Prop := ∀ x, x ∈ L → 0 ≤ x ∧ x < 256
theorem Small.cons {x : Int} {L : List Int} (h : Small L) (h0 : 0 ≤ x) (h1 : x < 256) : Small (x :: L) := fun y hy => by
  rcases List.mem_cons.1 hy with e | e
  · rw [e]; exact ⟨h0, h1⟩
  · exact h y e
theorem frac_small : ∀ (k : Nat) (n : Int) (b : Bool) (L : List Int), Small L → Small (fracGo k n b L).2.2
  | 0, _, _, _, h => h
  | k + 1, n, b, L, h => by
    rw [fracGo]
    split
    · exact frac_small k _ _ _ (h.cons (by omega) (by omega))
    · exact frac_small k _ _ _ h
theorem int_small : ∀ (d : Nat) (n : Int) (L : List Int), n.toNat ≤ d → Small L → Small (intGo n L) := by
  intro d
  induction d with
  | zero => intro n L hd h; rw [intGo_end (by omega)]; exact h.cons (by omega) (by omega)
  | succ d ih =>
    intro n L hd h
    by_cases c : n / 10 ≤ 0
    · rw [intGo_end c]; exact h.cons (by omega) (by omega)
    · rw [intGo_go c]; exact ih _ _ (by omega) (h.cons (by omega) (by omega))
theorem show_small (a : Int) : Small (showL a) := by
  unfold showL
  have h0 : Small (fracGo 6 (absV a) false []).2.2 := frac_small 6 _ _ _ (fun x hx => by cases hx)
  have h1 : Small (if (fracGo 6 (absV a) false []).2.1 = true then 46 :: (fracGo 6 (absV a) false []).2.2 else (fracGo 6 (absV a) false []).2.2) := by
    split
    · exact h0.cons (by omega) (by omega)
    · exact h0
  have h2 := int_small _ (fracGo 6 (absV a) false []).1 _ (Nat.le_refl _) h1
  simp only
  split
  · exact h2.cons (by omega) (by omega)
  · exact h2

theorem buf_zero (w : World) (nd : Nat) : Buf w.heap.size 24 [] (((w.alloc (.cells #[.int .u8 0, .int .u8 0, .int .u8 0, .int .u8 0, .int .u8 0, .int .u8 0, .int .u8 0, .int .u8 0, .int .u8 0, .int .u8 0, .int .u8 0, .int .u8 0, .int .u8 0, .int .u8 0, .int .u8 0, .int .u8 0, .int .u8 0, .int .u8 0, .int .u8 0, .int .u8 0, .int .u8 0, .int .u8 0, .int .u8 0, .int .u8 0] 57)).drewN nd).alloc (.cells #[.int .i64 24] 3)) := by
  have hb : (((w.alloc (.cells #[.int .u8 0, .int .u8 0, .int .u8 0, .int .u8 0, .int .u8 0, .int .u8 0, .int .u8 0, .int .u8 0, .int .u8 0, .int .u8 0, .int .u8 0, .int .u8 0, .int .u8 0, .int .u8 0, .int .u8 0, .int .u8 0, .int .u8 0, .int .u8 0, .int .u8 0, .int .u8 0, .int .u8 0, .int .u8 0, .int .u8 0, .int .u8 0] 57)).drewN nd).alloc (.cells #[.int .i64 24] 3)).heap[w.heap.size]? = some (.cells (Array.replicate 24 (.int .u8 0)) 57 (0, 0)) := by
    rw [Below.heap_alloc _ _ _ (by simp [World.drewN])]
    show (w.heap.push _)[w.heap.size]? = _
    simp
    rfl
  have hb1 : (((w.alloc (.cells #[.int .u8 0, .int .u8 0, .int .u8 0, .int .u8 0, .int .u8 0, .int .u8 0, .int .u8 0, .int .u8 0, .int .u8 0, .int .u8 0, .int .u8 0, .int .u8 0, .int .u8 0, .int .u8 0, .int .u8 0, .int .u8 0, .int .u8 0, .int .u8 0, .int .u8 0, .int .u8 0, .int .u8 0, .int .u8 0, .int .u8 0, .int .u8 0] 57)).drewN nd).alloc (.cells #[.int .i64 24] 3)).heap[w.heap.size + 1]? = some (.cells #[.int .i64 24] 3 (0, 0)) := by
    show ((w.heap.push _).push _)[w.heap.size + 1]? = _
    rw [Array.getElem?_push, if_pos (by simp)]
  refine ⟨?_, ?_, rfl, ?_, ?_, ?_, ?_⟩
  · simp only [World.cell?, hb1]; rfl
  · simp only [World.frozen?, hb1]; rfl
  · intro j hj
    refine ⟨0, ?_⟩
    simp only [World.cell?, hb]
    simp [hj]
  · intro j hj
    simp only [World.frozen?, hb]
    simp
  · intro j hj; simp at hj
  · show w.heap.size + 1 < ((w.heap.push _).push _).size
    simp

theorem al53 : Tryd.prog.arrayLen 57 = 24 := by kernel_rfl
theorem el53 : Tryd.prog.elem 57 = 5 := by kernel_rfl
theorem sz5 (w : World) : (sizeOf 5).run Tryd.prog w = .ok 1 w := by kernel_rfl
theorem slice53 (u : Nat) (B : Nat) (hu : u < 24) (w : World) : (Instr.sliceAt 57 (.pointer (some ⟨B, 0, none⟩)) (some (.int .i64 (u : Int))) none none).run Tryd.prog w = .ok (.slice (some ⟨B, u, none⟩) (24 - u) (24 - u)) w := by
  rw [run_sliceAt_array_l (P := Tryd.prog) w 57 ⟨B, 0, none⟩ (by rw [al53, el53]; exact Tryd.underlying57) .i64 (u : Int) (by omega) (by rw [al53]; omega), el53, sz5, al53]
  simp only [Result.andThen, slicedAt, Int.toNat_natCast, Nat.mul_one]
  rw [if_neg (by omega)]
  have e : (⟨B, 0, none⟩ : Addr).add u = ⟨B, u, none⟩ := by unfold Addr.add; by_cases hj0 : u = 0 <;> simp [hj0]
  rw [e]

set_option maxHeartbeats 4000000 in
set_option maxRecDepth 1000000 in
theorem show_any (a : Int) (w : World) (h0 : -9223372036854775808 ≤ a) (h1 : a ≤ 9223372036854775807) :
    Calls Tryd.prog 35 #[.int .i64 a] w fun e w' => e = .returned (.string (showV a)) ∧ Below w.heap.size w w' := by
  obtain ⟨N, hN⟩ : ∃ N, N = absV a := ⟨_, rfl⟩
  have hN0 : 0 ≤ N ∧ N ≤ 9223372036854775808 := by rw [hN]; unfold absV; split <;> omega
  have HS := Lib.hid (fun wx => size_any a wx h0 h1)
  rw [← hN] at HS
  have HN := Lib.hid hN
  clear hN
  obtain ⟨hN0, hN1⟩ := hN0
  go_enter Tryd.func35, Tryd.ntmps35
  go_wp2_with (go_at_call 43; refine (HS.out _).mono ?_; rintro e w1 ⟨rfl, ⟨n1, rfl⟩⟩)
  go_loopw [5, 7, 12] (fun v5 v7 v12 wr => ∃ (n : Int) (b : Bool) (i t : Nat) (L : List Int), v5 = .int .u64 n ∧ v7 = .bool b ∧ v12 = .int .i64 i ∧ i ≤ 6 ∧ 0 ≤ n ∧ n ≤ 9223372036854775808 ∧ 24 ≤ t + i ∧ Hid (pT i * n ≤ 9223372036854775808) ∧ Hid (fracGo (6 - i) n b L = fracGo 6 N false []) ∧ Hid (Buf w.heap.size t L wr) ∧ Below w.heap.size w wr) (fun _ _ v12 _ => 6 - (intOf v12).toNat)
  case atStart =>
    exact ⟨N, false, 0, 24, [], rfl, rfl, rfl, by omega, hN0, hN1, by omega, by show 1 * N ≤ _; omega, rfl, buf_zero w n1, (below_drewN ((Below.refl _ _).alloc (Nat.le_refl _) _) n1).alloc (by simp [World.drewN]) _⟩
  case round =>
    obtain ⟨n, b, i, t, L, rfl, rfl, rfl, hi, hn0, hn1, hti, HP, HF, HB, hbw⟩ := hrel
    by_cases hlt : i < 6
    · obtain ⟨k, hk⟩ : ∃ k, 6 - i = k + 1 := ⟨5 - i, by omega⟩
      have hk2 : 6 - (i + 1) = k := by omega
      have HF2 := HF.out
      rw [hk, fracGo] at HF2
      have HP2 : pT (i + 1) * (n / 10) ≤ 9223372036854775808 := by
        have h1 := HP.out
        have h2 : pT i * (10 * (n / 10)) ≤ pT i * n := Int.mul_le_mul_of_nonneg_left (by omega) (pT_nonneg i)
        simp only [pT]
        rw [Int.mul_assoc, Int.mul_left_comm]
        omega
      have HPP := Lib.hid HP2
      have hn0' : 0 ≤ n / 10 := by omega
      have hn1' : n / 10 ≤ 9223372036854775808 := by omega
      obtain ⟨u, rfl⟩ : ∃ u, t = u + 1 := ⟨t - 1, by omega⟩
      clear HP2 hk
      cases b
      · by_cases hd : 0 < n % 10
        · have hdb : decide (0 < n % 10) = true := decide_eq_true hd
          rw [if_pos (.inr hd), ← hk2] at HF2
          have HF3 := Lib.hid HF2
          clear HF2 hk2
          go_wp2_with (go_at_call 44; refine (put_any w.heap.size _ _ _ _ HB.out).mono ?_; rintro e w3 ⟨rfl, hB3, hb3⟩)
          go_roundw
          case rel => exact ⟨n / 10, true, i + 1, u, _, rfl, rfl, by go_num, by omega, hn0', hn1', by omega, HPP.out, HF3.out, hB3, hbw.trans hb3⟩
          case measure => simp [intOf]; omega
        · have hdb : decide (0 < n % 10) = false := decide_eq_false hd
          rw [if_neg (by simp [hd]), ← hk2] at HF2
          have HF3 := Lib.hid HF2
          clear HF2 hk2
          go_wp2
          go_roundw
          case rel => exact ⟨n / 10, false, i + 1, u + 1, _, rfl, rfl, by go_num, by omega, hn0', hn1', by omega, HPP.out, HF3.out, HB.out, hbw⟩
          case measure => simp [intOf]; omega
      · rw [if_pos (.inl rfl), ← hk2] at HF2
        have HF3 := Lib.hid HF2
        clear HF2 hk2
        go_wp2_with (go_at_call 44; refine (put_any w.heap.size _ _ _ _ HB.out).mono ?_; rintro e w3 ⟨rfl, hB3, hb3⟩)
        go_roundw
        case rel => exact ⟨n / 10, true, i + 1, u, _, rfl, rfl, by go_num, by omega, hn0', hn1', by omega, HPP.out, HF3.out, hB3, hbw.trans hb3⟩
        case measure => simp [intOf]; omega
    · have hi6 : i = 6 := by omega
      subst hi6
      have HF2 : fracGo 6 N false [] = (n, b, L) := HF.out.symm
      have HF3 := Lib.hid HF2
      have hnb : n < 100000000000000 := by have := HP.out; simp only [pT] at this; omega
      obtain ⟨W, rfl⟩ : ∃ W : World, W = wr := ⟨_, rfl⟩
      clear HF HF2 HP
      go_upto_if 29 with (fail)
      go_cut [] (fun wg => ∃ (t2 : Nat) (L2 : List Int), 17 ≤ t2 ∧ L2 = (if b = true then 46 :: L else L) ∧ Hid (Buf w.heap.size t2 L2 wg) ∧ Below w.heap.size w wg)
      case first =>
        cases b
        · go_wp2
          go_meet
          case rel => exact ⟨t, L, by omega, by simp, HB.out, hbw⟩
        · obtain ⟨u, rfl⟩ : ∃ u, t = u + 1 := ⟨t - 1, by omega⟩
          go_wp2_with (go_at_call 44; refine (put_any w.heap.size _ _ _ _ HB.out).mono ?_; rintro e w3 ⟨rfl, hB3, hb3⟩)
          go_meet
          case rel => exact ⟨u, _, by omega, by simp, hB3, hbw.trans hb3⟩
      case rest =>
        obtain ⟨t2, L2, ht2, hL2, HB2, hbg⟩ := hcut
        have hX : showL a = if a < 0 then 45 :: intGo n L2 else intGo n L2 := by
          unfold showL
          simp only
          rw [← HN.out, HF3.out]
          simp only
          rw [← hL2]
        have HX := Lib.hid hX
        clear hX hL2 HB hbw HF3
        obtain ⟨W2, rfl⟩ : ∃ W2 : World, W2 = wc := ⟨_, rfl⟩
        go_wp2_with fail
        go_loopw [5] (fun v5 wr => ∃ (n2 : Int) (k t3 : Nat) (L3 : List Int), v5 = .int .u64 n2 ∧ 0 ≤ n2 ∧ n2 ≤ 9223372036854775808 ∧ Hid (n2 < pT k) ∧ 1 ≤ k ∧ k + 2 ≤ t3 ∧ Hid (intGo n2 L3 = intGo n L2) ∧ Hid (Buf w.heap.size t3 L3 wr) ∧ Below w.heap.size w wr) (fun v5 _ => (intOf v5).toNat)
        case atStart => exact ⟨n, 14, t2, L2, rfl, hn0, hn1, by show n < pT 14; simp only [pT]; omega, by omega, by omega, rfl, HB2.out, hbg⟩
        case round =>
          obtain ⟨n2, k, t3, L3, rfl, hn20, hn21, HK, hk1, hkt, HI, HB3, hbw3⟩ := hrel
          obtain ⟨u, rfl⟩ : ∃ u, t3 = u + 1 := ⟨t3 - 1, by omega⟩
          by_cases hz : n2 / 10 ≤ 0
          · have hzb : (n2 / 10 == 0) = true := beq_iff_eq.2 (by omega)
            have hI2 : (48 + n2 % 10) :: L3 = intGo n L2 := by rw [← HI.out, intGo_end hz]
            have HI2 := Lib.hid hI2
            clear hI2 hz
            have hcv : ∀ (T : Nat) (wx : World), Hid (Buf w.heap.size T (showL a) wx) → ∀ cap, (convert 46 9 (.slice (some ⟨w.heap.size, T, none⟩) (24 - T) cap)).run Tryd.prog wx = .ok (.string (showV a)) wx := by
              intro T wx hB cap
              have hl : ((showL a).map fun n => UInt8.ofNat n.toNat).length = 24 - T := by rw [List.length_map]; have := hB.out.2.2.1; omega
              have hbk := run_convert_bytes_back (P := Tryd.prog) wx 46 9 5 ⟨w.heap.size, T, none⟩ cap ((showL a).map fun n => UInt8.ofNat n.toNat) Tryd.underlying46 Tryd.underlying5 Tryd.underlying9 (fun j hj => by
                rw [List.length_map] at hj
                have e : (⟨w.heap.size, T, none⟩ : Addr).add j = ⟨w.heap.size, T + j, none⟩ := by unfold Addr.add; by_cases hj0 : j = 0 <;> simp [hj0]
                rw [e, hB.out.2.2.2.2.2.1 j hj]
                have hs := show_small a ((showL a)[j]) (List.getElem_mem hj)
                simp only [List.getElem_map, UInt8.toNat_ofNat', List.getD, List.getElem?_eq_getElem hj, Option.getD_some]
                congr 2
                omega)
              rw [hl] at hbk
              exact hbk
            have HCV := Lib.hid hcv
            clear hcv
            by_cases hneg : a < 0
            · have hnb : decide (a < 0) = true := decide_eq_true hneg
              obtain ⟨u, rfl⟩ : ∃ u', u = u' + 1 := ⟨u - 1, by omega⟩
              have hX2 : 45 :: (48 + n2 % 10) :: L3 = showL a := by rw [HX.out, if_pos hneg, HI2.out]
              have HX2 := Lib.hid hX2
              clear hX2
              go_wp2_with fail
              refine (put_any w.heap.size _ _ _ _ HB3.out).mono ?_
              rintro e w3 ⟨rfl, hB4, hb4⟩
              have HB4 := Lib.hid hB4
              clear hB4
              go_wp2_with fail
              refine (put_any w.heap.size _ _ _ _ HB4.out).mono ?_
              rintro e w4 ⟨rfl, hB5, hb5⟩
              rw [HX2.out] at hB5
              have hrun := HCV.out u w4 hB5
              have hat := hB5.1
              have hll := hB5.2.2.1
              have hu : u < 24 := by have : (showL a).length ≠ 0 := by rw [← HX2.out]; simp
                                     omega
              have hsl := slice53 u w.heap.size hu
              go_wp2
              go_ret
              exact ⟨rfl, (hbw3.trans hb4).trans hb5⟩
            · have hnb : decide (a < 0) = false := decide_eq_false hneg
              have hX2 : (48 + n2 % 10) :: L3 = showL a := by rw [HX.out, if_neg hneg, HI2.out]
              have HX2 := Lib.hid hX2
              clear hX2
              go_wp2_with fail
              refine (put_any w.heap.size _ _ _ _ HB3.out).mono ?_
              rintro e w3 ⟨rfl, hB4, hb4⟩
              rw [HX2.out] at hB4
              have hrun := HCV.out u w3 hB4
              have hat := hB4.1
              have hll := hB4.2.2.1
              have hu : u < 24 := by have : (showL a).length ≠ 0 := by rw [← HX2.out]; simp
                                     omega
              have hsl := slice53 u w.heap.size hu
              go_wp2
              go_ret
              exact ⟨rfl, hbw3.trans hb4⟩
          · have hzb : (n2 / 10 == 0) = false := beq_eq_false_iff_ne.2 (by omega)
            have hI2 : intGo (n2 / 10) ((48 + n2 % 10) :: L3) = intGo n L2 := by rw [← HI.out, intGo_go hz]
            have HI2 := Lib.hid hI2
            obtain ⟨k, rfl⟩ : ∃ k', k = k' + 1 := ⟨k - 1, by omega⟩
            have hK := HK.out
            simp only [pT] at hK
            have hk1' : 1 ≤ k := by
              rcases Nat.eq_zero_or_pos k with h | h
              · subst h; simp only [pT] at hK; omega
              · exact h
            have HK2 : Hid (n2 / 10 < pT k) := by show _ < _; omega
            have hq0 : 0 ≤ n2 / 10 := by omega
            have hq1 : n2 / 10 ≤ 9223372036854775808 := by omega
            have hqm : (n2 / 10).toNat < n2.toNat := by omega
            clear hI2 hK hz
            go_wp2_with (go_at_call 44; refine (put_any w.heap.size _ _ _ _ HB3.out).mono ?_; rintro e w3 ⟨rfl, hB4, hb4⟩)
            go_roundw
            case rel =>
              (repeat apply Exists.intro)
              exact ⟨⟨n2 / 10, k, u, _, rfl, hq0, hq1, HK2, hk1', by omega, HI2.out, hB4, hbw3.trans hb4⟩, rfl⟩
            case measure => simp [intOf]; omega

/-- 'Show' as a whole. -/
def dec_Show.f (a : Int) : Option ByteArray := if -9223372036854775808 ≤ a ∧ a ≤ 9223372036854775807 then some (showV a) else none
theorem dec_Show.calls (a0 : Int) (r : ByteArray) (w : World) (h : dec_Show.f a0 = some r) :
    Calls Tryd.prog 35 #[.int .i64 a0] w fun e w' => e = .returned (.string r) ∧ Below w.heap.size w w' := by
  unfold dec_Show.f at h
  split at h
  · rename_i hs
    obtain rfl := Option.some.inj h
    exact show_any a0 w hs.1 hs.2
  · cases h

end Go.Proofs.YtfejcghnbimedaaDoor.Giv
