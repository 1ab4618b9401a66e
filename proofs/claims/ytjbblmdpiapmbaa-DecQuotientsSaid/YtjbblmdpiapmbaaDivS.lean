/- bits.Div64 is the quotient of a number of two words by one word: Knuth's division, digit by digit. -/
import Derived.Test.YtjbblmdpiapmbaaPDecx1
import Derived.Test.YtjbblmdpiapmbaaMulS
import Derived.Laws.Bits64b
set_option linter.unusedVariables false
set_option linter.unusedSimpArgs false
namespace Go.Proofs.Ytjbblmdpiapmbaa.Div
open Go.RowKit Go.Proofs.Ytjbblmdpiapmbaa.PDec Go.Proofs.YtjbblmdpiapmbaaW.PrintWords Go.Proofs.YtjbblmdpiapmbaaW.PrintMore Go.Proofs.Ytjbblmdpiapmbaa.Giv

/-! ### how many leading noughts -/
def lenT : ByteArray := ⟨#[0, 1, 2, 2, 3, 3, 3, 3, 4, 4, 4, 4, 4, 4, 4, 4, 5, 5, 5, 5, 5, 5, 5, 5, 5, 5, 5, 5, 5, 5, 5, 5, 6, 6, 6, 6, 6, 6, 6, 6, 6, 6, 6, 6, 6, 6, 6, 6, 6, 6, 6, 6, 6, 6, 6, 6, 6, 6, 6, 6, 6, 6, 6, 6, 7, 7, 7, 7, 7, 7, 7, 7, 7, 7, 7, 7, 7, 7, 7, 7, 7, 7, 7, 7, 7, 7, 7, 7, 7, 7, 7, 7, 7, 7, 7, 7, 7, 7, 7, 7, 7, 7, 7, 7, 7, 7, 7, 7, 7, 7, 7, 7, 7, 7, 7, 7, 7, 7, 7, 7, 7, 7, 7, 7, 7, 7, 7, 7, 8, 8, 8, 8, 8, 8, 8, 8, 8, 8, 8, 8, 8, 8, 8, 8, 8, 8, 8, 8, 8, 8, 8, 8, 8, 8, 8, 8, 8, 8, 8, 8, 8, 8, 8, 8, 8, 8, 8, 8, 8, 8, 8, 8, 8, 8, 8, 8, 8, 8, 8, 8, 8, 8, 8, 8, 8, 8, 8, 8, 8, 8, 8, 8, 8, 8, 8, 8, 8, 8, 8, 8, 8, 8, 8, 8, 8, 8, 8, 8, 8, 8, 8, 8, 8, 8, 8, 8, 8, 8, 8, 8, 8, 8, 8, 8, 8, 8, 8, 8, 8, 8, 8, 8, 8, 8, 8, 8, 8, 8, 8, 8, 8, 8, 8, 8, 8, 8, 8, 8, 8, 8, 8, 8, 8, 8, 8, 8]⟩
def TabOk (i : Nat) : Bool := (bt lenT (i : Int) == 1 && i == 1) || (bt lenT (i : Int) == 2 && decide (2 ≤ i) && decide (i < 4)) || (bt lenT (i : Int) == 3 && decide (4 ≤ i) && decide (i < 8)) || (bt lenT (i : Int) == 4 && decide (8 ≤ i) && decide (i < 16)) || (bt lenT (i : Int) == 5 && decide (16 ≤ i) && decide (i < 32)) || (bt lenT (i : Int) == 6 && decide (32 ≤ i) && decide (i < 64)) || (bt lenT (i : Int) == 7 && decide (64 ≤ i) && decide (i < 128)) || (bt lenT (i : Int) == 8 && decide (128 ≤ i) && decide (i < 256))
theorem tab_all : ∀ i : Fin 256, i.val = 0 ∨ TabOk i.val = true := by decide +kernel
theorem tab_at (z : Int) (h0 : 1 ≤ z) (h1 : z < 256) : (bt lenT z = 1 ∧ z = 1) ∨ (bt lenT z = 2 ∧ 2 ≤ z ∧ z < 4) ∨ (bt lenT z = 3 ∧ 4 ≤ z ∧ z < 8) ∨ (bt lenT z = 4 ∧ 8 ≤ z ∧ z < 16) ∨ (bt lenT z = 5 ∧ 16 ≤ z ∧ z < 32) ∨ (bt lenT z = 6 ∧ 32 ≤ z ∧ z < 64) ∨ (bt lenT z = 7 ∧ 64 ≤ z ∧ z < 128) ∨ (bt lenT z = 8 ∧ 128 ≤ z ∧ z < 256) := by
  obtain ⟨n, rfl⟩ := Int.eq_ofNat_of_zero_le (show 0 ≤ z by omega)
  have h := tab_all ⟨n, by omega⟩
  rcases h with h | h
  · simp only at h; omega
  · simp only [TabOk, Bool.or_eq_true, Bool.and_eq_true, beq_iff_eq, decide_eq_true_eq] at h
    omega

/-- The shift that makes a word great. -/
def IsLz (y s : Int) : Prop := 0 ≤ s ∧ s ≤ 63 ∧ 9223372036854775808 ≤ y * 2 ^ s.toNat ∧ y * 2 ^ s.toNat < 18446744073709551616

theorem wr {x : Int} (h0 : 0 ≤ x) (h1 : x ≤ 1000) : wrap64 x = x := by unfold wrap64; omega

theorem lz_of (y e z : Int) (he : 0 ≤ e) (he2 : e ≤ 56) (hz0 : 1 ≤ z) (hz1 : z < 256) (hlo : z * 2 ^ e.toNat ≤ y) (hhi : y < (z + 1) * 2 ^ e.toNat) : 0 ≤ bt lenT z ∧ bt lenT z ≤ 8 ∧ IsLz y (64 - (e + bt lenT z)) := by
  have key : ∀ t : Nat, 1 ≤ t → t ≤ 8 → 2 ^ (t - 1) ≤ z → z + 1 ≤ 2 ^ t → IsLz y (64 - (e + (t : Int))) := by
    intro t t1 t8 a b
    obtain ⟨n, rfl⟩ := Int.eq_ofNat_of_zero_le he
    rw [Int.toNat_natCast] at hlo hhi
    have es : (64 - ((n : Int) + (t : Int))).toNat = 64 - (n + t) := by omega
    refine ⟨by omega, by omega, ?_, ?_⟩
    · rw [es]
      have p1 : (2 : Int) ^ (t - 1) * 2 ^ n ≤ y := Int.le_trans (Int.mul_le_mul_of_nonneg_right a (Int.le_of_lt (Int.pow_pos (by omega)))) hlo
      have p2 := Int.mul_le_mul_of_nonneg_right p1 (Int.le_of_lt (show (0 : Int) < 2 ^ (64 - (n + t)) from Int.pow_pos (by omega)))
      rw [← Int.pow_add, ← Int.pow_add] at p2
      have e1 : t - 1 + n + (64 - (n + t)) = 63 := by omega
      rw [e1] at p2
      exact p2
    · rw [es]
      have p1 : y < (2 : Int) ^ t * 2 ^ n := Int.lt_of_lt_of_le hhi (Int.mul_le_mul_of_nonneg_right b (Int.le_of_lt (Int.pow_pos (by omega))))
      have p2 := Int.mul_lt_mul_of_pos_right p1 (show (0 : Int) < 2 ^ (64 - (n + t)) from Int.pow_pos (by omega))
      rw [← Int.pow_add, ← Int.pow_add] at p2
      have e1 : t + n + (64 - (n + t)) = 64 := by omega
      rw [e1] at p2
      exact p2
  rcases tab_at z hz0 hz1 with ⟨h, a⟩ | ⟨h, a, b⟩ | ⟨h, a, b⟩ | ⟨h, a, b⟩ | ⟨h, a, b⟩ | ⟨h, a, b⟩ | ⟨h, a, b⟩ | ⟨h, a, b⟩
  · rw [h]; exact ⟨by omega, by omega, key 1 (by omega) (by omega) (by omega) (by omega)⟩
  · rw [h]; exact ⟨by omega, by omega, key 2 (by omega) (by omega) (by omega) (by omega)⟩
  · rw [h]; exact ⟨by omega, by omega, key 3 (by omega) (by omega) (by omega) (by omega)⟩
  · rw [h]; exact ⟨by omega, by omega, key 4 (by omega) (by omega) (by omega) (by omega)⟩
  · rw [h]; exact ⟨by omega, by omega, key 5 (by omega) (by omega) (by omega) (by omega)⟩
  · rw [h]; exact ⟨by omega, by omega, key 6 (by omega) (by omega) (by omega) (by omega)⟩
  · rw [h]; exact ⟨by omega, by omega, key 7 (by omega) (by omega) (by omega) (by omega)⟩
  · rw [h]; exact ⟨by omega, by omega, key 8 (by omega) (by omega) (by omega) (by omega)⟩

set_option maxRecDepth 100000 in
theorem j0_eq (k : Nat) (x0 x2 : Int) : bits_Len64.j0 (k + 1) x0 x2 = if x0 ≥ 65536 then (if (x0 / 65536) ≥ 256 then (if 0 ≤ (((x0 / 65536) / 256) % 256) then (if (((x0 / 65536) / 256) % 256) < 256 then (some (wrap64 ((wrap64 ((wrap64 (x2 + 16)) + 8)) + (wrap64 (bt lenT (((x0 / 65536) / 256) % 256)))))) else (none)) else (none)) else (if 0 ≤ ((x0 / 65536) % 256) then (if ((x0 / 65536) % 256) < 256 then (some (wrap64 ((wrap64 (x2 + 16)) + (wrap64 (bt lenT ((x0 / 65536) % 256)))))) else (none)) else (none))) else (if x0 ≥ 256 then (if 0 ≤ ((x0 / 256) % 256) then (if ((x0 / 256) % 256) < 256 then (some (wrap64 ((wrap64 (x2 + 8)) + (wrap64 (bt lenT ((x0 / 256) % 256)))))) else (none)) else (none)) else (if 0 ≤ ((x0) % 256) then (if ((x0) % 256) < 256 then (some (wrap64 (x2 + (wrap64 (bt lenT ((x0) % 256)))))) else (none)) else (none))) := by
  rw [bits_Len64.j0]
  rfl
theorem len_j0 (k : Nat) (x n : Int) (h0 : 1 ≤ x) (h1 : x < 4294967296) (hn0 : 0 ≤ n) (hn1 : n ≤ 32) : ∃ e z, bits_Len64.j0 (k + 1) x n = some (n + e + bt lenT z) ∧ 0 ≤ e ∧ e ≤ 24 ∧ 1 ≤ z ∧ z < 256 ∧ z * 2 ^ e.toNat ≤ x ∧ x < (z + 1) * 2 ^ e.toNat := by
  have hb : ∀ z : Int, 1 ≤ z → z < 256 → 0 ≤ bt lenT z ∧ bt lenT z ≤ 8 := fun z a b => by have := tab_at z a b; omega
  rw [j0_eq]
  by_cases c1 : x ≥ 65536
  · rw [if_pos c1]
    by_cases c2 : x / 65536 ≥ 256
    · rw [if_pos c2, if_pos (by omega), if_pos (by omega)]
      have ez : x / 65536 / 256 % 256 = x / 65536 / 256 := by omega
      rw [ez]
      refine ⟨24, x / 65536 / 256, ?_, by omega, by omega, by omega, by omega, ?_, ?_⟩
      · have := hb (x / 65536 / 256) (by omega) (by omega)
        rw [wr (x := n + 16) (by omega) (by omega), wr (x := n + 16 + 8) (by omega) (by omega), wr (x := bt lenT _) (by omega) (by omega), wr (by omega) (by omega)]
        congr 1; omega
      · show x / 65536 / 256 * 2 ^ 24 ≤ x; omega
      · show x < (x / 65536 / 256 + 1) * 2 ^ 24; omega
    · rw [if_neg c2, if_pos (by omega), if_pos (by omega)]
      have ez : x / 65536 % 256 = x / 65536 := by omega
      rw [ez]
      refine ⟨16, x / 65536, ?_, by omega, by omega, by omega, by omega, ?_, ?_⟩
      · have := hb (x / 65536) (by omega) (by omega)
        rw [wr (x := n + 16) (by omega) (by omega), wr (x := bt lenT _) (by omega) (by omega), wr (by omega) (by omega)]
      · show x / 65536 * 2 ^ 16 ≤ x; omega
      · show x < (x / 65536 + 1) * 2 ^ 16; omega
  · rw [if_neg c1]
    by_cases c2 : x ≥ 256
    · rw [if_pos c2, if_pos (by omega), if_pos (by omega)]
      have ez : x / 256 % 256 = x / 256 := by omega
      rw [ez]
      refine ⟨8, x / 256, ?_, by omega, by omega, by omega, by omega, ?_, ?_⟩
      · have := hb (x / 256) (by omega) (by omega)
        rw [wr (x := n + 8) (by omega) (by omega), wr (x := bt lenT _) (by omega) (by omega), wr (by omega) (by omega)]
      · show x / 256 * 2 ^ 8 ≤ x; omega
      · show x < (x / 256 + 1) * 2 ^ 8; omega
    · rw [if_neg c2, if_pos (by omega), if_pos (by omega)]
      have ez : x % 256 = x := by omega
      rw [ez]
      refine ⟨0, x, ?_, by omega, by omega, by omega, by omega, ?_, ?_⟩
      · have := hb x (by omega) (by omega)
        rw [wr (x := bt lenT _) (by omega) (by omega), wr (by omega) (by omega)]
        congr 1; omega
      · show x * 2 ^ 0 ≤ x; omega
      · show x < (x + 1) * 2 ^ 0; omega

set_option maxRecDepth 100000 in
theorem lz_spec (y : Int) (h0 : 1 ≤ y) (h1 : y < 18446744073709551616) : ∃ s, IsLz y s ∧ ∀ k, bits_LeadingZeros64.f (k + 1) y = some s := by
  by_cases c : y ≥ 4294967296
  · have hj := fun k => len_j0 k (y / 4294967296) 32 (by omega) (by omega) (by omega) (by omega)
    obtain ⟨e, z, h, e0, e1, z0, z1, a, b⟩ := hj 0
    obtain ⟨n, rfl⟩ := Int.eq_ofNat_of_zero_le e0
    rw [Int.toNat_natCast] at a b
    have hl := lz_of y (32 + n) z (by omega) (by omega) z0 z1 (by
      have : (32 + (n : Int)).toNat = n + 32 := by omega
      rw [this, Int.pow_add, ← Int.mul_assoc]
      generalize z * 2 ^ n = q at *
      have : (2 : Int) ^ 32 = 4294967296 := by decide
      rw [this]; omega) (by
      have : (32 + (n : Int)).toNat = n + 32 := by omega
      rw [this, Int.pow_add, ← Int.mul_assoc]
      generalize (z + 1) * 2 ^ n = q at *
      have : (2 : Int) ^ 32 = 4294967296 := by decide
      rw [this]; omega)
    refine ⟨64 - (32 + n + bt lenT z), hl.2.2, fun k => ?_⟩
    unfold bits_LeadingZeros64.f bits_Len64.f
    rw [if_pos c]
    have hk : bits_Len64.j0 (k + 1) (y / 4294967296) 32 = bits_Len64.j0 (0 + 1) (y / 4294967296) 32 := by rw [j0_eq, j0_eq]
    rw [hk, h]
    simp only [Option.bind_some]
    rw [wr (by have := hl.2.2.1; omega) (by omega)]
  · have hj := fun k => len_j0 k y 0 (by omega) (by omega) (by omega) (by omega)
    obtain ⟨e, z, h, e0, e1, z0, z1, a, b⟩ := hj 0
    have hl := lz_of y e z (by omega) (by omega) z0 z1 a b
    refine ⟨64 - (e + bt lenT z), hl.2.2, fun k => ?_⟩
    unfold bits_LeadingZeros64.f bits_Len64.f
    rw [if_neg c]
    have hk : bits_Len64.j0 (k + 1) y 0 = bits_Len64.j0 (0 + 1) y 0 := by rw [j0_eq, j0_eq]
    rw [hk, h]
    simp only [Option.bind_some]
    rw [wr (by have := hl.2.2.1; omega) (by omega)]
    congr 1; omega

/-! ### the digits of the quotient -/
theorem u64 (x : Int) : IntKind.u64.wrap x = x % 18446744073709551616 := w64 x

/-- One digit: the guess is too great just if the test says so. -/
theorem guess {y1 y0 u32 u1 q r Q : Int} (hy1 : 2147483648 ≤ y1) (hy1' : y1 < 4294967296) (hy0 : 0 ≤ y0) (hy0' : y0 < 4294967296) (hu1 : 0 ≤ u1) (hu1' : u1 < 4294967296)
    (hQ : Q = (u32 * 4294967296 + u1) / (y1 * 4294967296 + y0)) (hr : u32 = q * y1 + r) : (q ≤ Q ↔ q * y0 ≤ 4294967296 * r + u1) := by
  rw [hQ, Int.le_ediv_iff_mul_le (by omega), hr]
  have e : q * (y1 * 4294967296 + y0) = q * y1 * 4294967296 + q * y0 := by rw [Int.mul_add, Int.mul_assoc]
  rw [e]
  generalize q * y1 = a
  generalize q * y0 = b
  exact ⟨fun h => by omega, fun h => by omega⟩

theorem loop0 (y' s y1 y0 u32 u1 u0 : Int) (R : Int × Int) (Q : Int) (hy1 : 2147483648 ≤ y1) (hy1' : y1 < 4294967296) (hy0 : 0 ≤ y0) (hy0' : y0 < 4294967296) (hu1 : 0 ≤ u1) (hu1' : u1 < 4294967296)
    (hQ : Q = (u32 * 4294967296 + u1) / (y1 * 4294967296 + y0)) (hQ0 : 0 ≤ Q) (hQB : Q < 4294967296)
    (hj : Ev (fun k => bits_Div64.j2 k y' s y1 y0 u32 u1 u0 Q) R) : ∀ (d : Nat) (q r : Int), q - Q ≤ d → Q ≤ q → q ≤ 4294967297 → u32 = q * y1 + r → 0 ≤ r → r < 4294967296 → Ev (fun k => bits_Div64.l0 k y' s y1 y0 u32 u1 u0 q r) R := by
  intro d
  induction d with
  | zero =>
    intro q r h1 h2 h3 hr h4 h5
    have hqQ : q = Q := by omega
    have hg := (guess hy1 hy1' hy0 hy0' hu1 hu1' hQ hr).1 (by omega)
    obtain ⟨K, hK⟩ := hj
    refine ⟨K + 2, fun k hk => ?_⟩
    obtain ⟨m, rfl⟩ : ∃ m, k = m + 2 := ⟨k - 2, by omega⟩
    simp only [bits_Div64.l0]
    have hb0 : 0 ≤ q * y0 := Int.mul_nonneg (by omega) hy0
    have hb1 : q * y0 ≤ 4294967295 * 4294967295 := Int.mul_le_mul (by omega) (by omega) hy0 (by omega)
    rw [if_neg (by omega), u64, u64, u64]
    have ht : decide (q * y0 % 18446744073709551616 > (4294967296 * r % 18446744073709551616 + u1) % 18446744073709551616) = false := decide_eq_false (by omega)
    rw [ht]
    simp only [bits_Div64.j1]
    rw [if_neg (by simp), hqQ]
    exact hK m (by omega)
  | succ d ih =>
    intro q r h1 h2 h3 hr h4 h5
    by_cases hqQ : q = Q
    · exact ih q r (by omega) h2 h3 hr h4 h5
    · have hg := fun h => (guess hy1 hy1' hy0 hy0' hu1 hu1' hQ hr).2 h
      have hj1 : ∀ m, bits_Div64.l0 (m + 2) y' s y1 y0 u32 u1 u0 q r = bits_Div64.j1 (m + 1) y' s y1 y0 u32 u1 u0 q r true := fun m => by
        simp only [bits_Div64.l0]
        by_cases hB : q ≥ 4294967296
        · rw [if_pos hB]
        · rw [if_neg hB, u64, u64, u64]
          have hb0 : 0 ≤ q * y0 := Int.mul_nonneg (by omega) hy0
          have hb1 : q * y0 ≤ 4294967295 * 4294967295 := Int.mul_le_mul (by omega) (by omega) hy0 (by omega)
          have ht : decide (q * y0 % 18446744073709551616 > (4294967296 * r % 18446744073709551616 + u1) % 18446744073709551616) = true := decide_eq_true (by
            have : ¬ q * y0 ≤ 4294967296 * r + u1 := fun h => by have := hg h; omega
            omega)
          rw [ht]
      have hr2 : u32 = (q - 1) * y1 + (r + y1) := by rw [hr, Int.sub_mul]; omega
      have wr1 : IntKind.u64.wrap (r + y1) = r + y1 := w64_in (by omega) (by omega)
      have wq1 : IntKind.u64.wrap (q - 1) = q - 1 := w64_in (by omega) (by omega)
      by_cases hbr : r + y1 ≥ 4294967296
      · have hle : q - 1 ≤ Q := (guess hy1 hy1' hy0 hy0' hu1 hu1' hQ hr2).2 (by
          have hb1 : (q - 1) * y0 ≤ 4294967296 * 4294967295 := Int.mul_le_mul (by omega) (by omega) hy0 (by omega)
          omega)
        have hq1 : q - 1 = Q := by omega
        obtain ⟨K, hK⟩ := hj
        refine ⟨K + 2, fun k hk => ?_⟩
        obtain ⟨m, rfl⟩ : ∃ m, k = m + 2 := ⟨k - 2, by omega⟩
        simp only
        rw [hj1]
        simp only [bits_Div64.j1]
        rw [if_pos trivial, wr1, wq1, if_pos hbr, hq1]
        exact hK m (by omega)
      · obtain ⟨K, hK⟩ := ih (q - 1) (r + y1) (by omega) (by omega) (by omega) hr2 (by omega) (by omega)
        refine ⟨K + 2, fun k hk => ?_⟩
        obtain ⟨m, rfl⟩ : ∃ m, k = m + 2 := ⟨k - 2, by omega⟩
        simp only
        rw [hj1]
        simp only [bits_Div64.j1]
        rw [if_pos trivial, wr1, wq1, if_neg hbr]
        exact hK m (by omega)

/-- The end: the two digits, and what is left (shifted back). -/
theorem loop1 (y' s y1 y0 u21 u0 Q1 : Int) (Q : Int) (hs : 0 ≤ s) (hy1 : 2147483648 ≤ y1) (hy1' : y1 < 4294967296) (hy0 : 0 ≤ y0) (hy0' : y0 < 4294967296) (hu1 : 0 ≤ u0) (hu1' : u0 < 4294967296)
    (hQ : Q = (u21 * 4294967296 + u0) / (y1 * 4294967296 + y0)) (hQ0 : 0 ≤ Q) (hQB : Q < 4294967296) (hQ10 : 0 ≤ Q1) (hQ1B : Q1 < 4294967296) : ∃ r2, ∀ (d : Nat) (q r : Int), q - Q ≤ d → Q ≤ q → q ≤ 4294967297 → u21 = q * y1 + r → 0 ≤ r → r < 4294967296 →
    Ev (fun k => bits_Div64.l1 k y' s y1 y0 u0 Q1 r u21 q) (Q1 * 4294967296 + Q, r2) := by
  refine ⟨shr .u64 (IntKind.u64.wrap ((IntKind.u64.wrap ((IntKind.u64.wrap (u21 * 4294967296)) + u0)) - (IntKind.u64.wrap (Q * y')))) s, ?_⟩
  have hend : IntKind.u64.wrap (IntKind.u64.wrap (Q1 * 4294967296) + Q) = Q1 * 4294967296 + Q := by rw [u64, u64]; omega
  intro d
  induction d with
  | zero =>
    intro q r h1 h2 h3 hr h4 h5
    have hqQ : q = Q := by omega
    have hg := (guess hy1 hy1' hy0 hy0' hu1 hu1' hQ hr).1 (by omega)
    refine ⟨2, fun k hk => ?_⟩
    obtain ⟨m, rfl⟩ : ∃ m, k = m + 2 := ⟨k - 2, by omega⟩
    simp only [bits_Div64.l1]
    have hb0 : 0 ≤ q * y0 := Int.mul_nonneg (by omega) hy0
    have hb1 : q * y0 ≤ 4294967295 * 4294967295 := Int.mul_le_mul (by omega) (by omega) hy0 (by omega)
    have ht : decide (IntKind.u64.wrap (q * y0) > IntKind.u64.wrap (IntKind.u64.wrap (4294967296 * r) + u0)) = false := by rw [u64, u64, u64]; exact decide_eq_false (by omega)
    rw [if_neg (by omega), ht]
    simp only [bits_Div64.j4]
    rw [if_neg (by simp), if_pos hs, hqQ, hend]
  | succ d ih =>
    intro q r h1 h2 h3 hr h4 h5
    by_cases hqQ : q = Q
    · exact ih q r (by omega) h2 h3 hr h4 h5
    · have hg := fun h => (guess hy1 hy1' hy0 hy0' hu1 hu1' hQ hr).2 h
      have hj1 : ∀ m, bits_Div64.l1 (m + 2) y' s y1 y0 u0 Q1 r u21 q = bits_Div64.j4 (m + 1) y' s y1 y0 u0 Q1 r u21 q true := fun m => by
        simp only [bits_Div64.l1]
        by_cases hB : q ≥ 4294967296
        · rw [if_pos hB]
        · have hb0 : 0 ≤ q * y0 := Int.mul_nonneg (by omega) hy0
          have hb1 : q * y0 ≤ 4294967295 * 4294967295 := Int.mul_le_mul (by omega) (by omega) hy0 (by omega)
          have ht : decide (IntKind.u64.wrap (q * y0) > IntKind.u64.wrap (IntKind.u64.wrap (4294967296 * r) + u0)) = true := by
            rw [u64, u64, u64]
            exact decide_eq_true (by
              have : ¬ q * y0 ≤ 4294967296 * r + u0 := fun h => by have := hg h; omega
              omega)
          rw [if_neg hB, ht]
      have hr2 : u21 = (q - 1) * y1 + (r + y1) := by rw [hr, Int.sub_mul]; omega
      have wr1 : IntKind.u64.wrap (r + y1) = r + y1 := w64_in (by omega) (by omega)
      have wq1 : IntKind.u64.wrap (q - 1) = q - 1 := w64_in (by omega) (by omega)
      by_cases hbr : r + y1 ≥ 4294967296
      · have hle : q - 1 ≤ Q := (guess hy1 hy1' hy0 hy0' hu1 hu1' hQ hr2).2 (by
          have hb1 : (q - 1) * y0 ≤ 4294967296 * 4294967295 := Int.mul_le_mul (by omega) (by omega) hy0 (by omega)
          omega)
        have hq1 : q - 1 = Q := by omega
        refine ⟨2, fun k hk => ?_⟩
        obtain ⟨m, rfl⟩ : ∃ m, k = m + 2 := ⟨k - 2, by omega⟩
        simp only
        rw [hj1]
        simp only [bits_Div64.j4]
        rw [if_pos trivial, wr1, wq1, if_pos hbr, if_pos hs, hq1, hend]
      · obtain ⟨K, hK⟩ := ih (q - 1) (r + y1) (by omega) (by omega) (by omega) hr2 (by omega) (by omega)
        refine ⟨K + 2, fun k hk => ?_⟩
        obtain ⟨m, rfl⟩ : ∃ m, k = m + 2 := ⟨k - 2, by omega⟩
        simp only
        rw [hj1]
        simp only [bits_Div64.j4]
        rw [if_pos trivial, wr1, wq1, if_neg hbr]
        exact hK m (by omega)

/-- What a first guess is. -/
theorem first_guess {y1 y0 u32 u1 Q : Int} (hy1 : 2147483648 ≤ y1) (hy1' : y1 < 4294967296) (hy0 : 0 ≤ y0) (hy0' : y0 < 4294967296) (hu1 : 0 ≤ u1) (hu1' : u1 < 4294967296) (hu0 : 0 ≤ u32) (hu : u32 < y1 * 4294967296 + y0)
    (hQ : Q = (u32 * 4294967296 + u1) / (y1 * 4294967296 + y0)) : 0 ≤ Q ∧ Q < 4294967296 ∧ Q ≤ u32 / y1 ∧ u32 / y1 ≤ 4294967297 ∧ u32 = u32 / y1 * y1 + (u32 - u32 / y1 * y1) ∧ 0 ≤ u32 - u32 / y1 * y1 ∧ u32 - u32 / y1 * y1 < y1 := by
  have hpos : 0 < y1 * 4294967296 + y0 := by omega
  have q0 : 0 ≤ Q := by rw [hQ]; exact Int.ediv_nonneg (by omega) (by omega)
  have qB : Q < 4294967296 := by rw [hQ]; exact Int.ediv_lt_of_lt_mul hpos (by omega)
  have hm := Int.emod_add_mul_ediv u32 y1
  have hm0 := Int.emod_nonneg u32 (show y1 ≠ 0 by omega)
  have hm1 := Int.emod_lt_of_pos u32 (show 0 < y1 by omega)
  rw [Int.mul_comm] at hm
  refine ⟨q0, qB, ?_, ?_, by omega, by omega, by omega⟩
  · rw [Int.le_ediv_iff_mul_le (by omega)]
    have h1 : Q * (y1 * 4294967296 + y0) ≤ u32 * 4294967296 + u1 := by rw [hQ]; exact Int.ediv_mul_le _ (by omega)
    rw [Int.mul_add, ← Int.mul_assoc] at h1
    have h2 : 0 ≤ Q * y0 := Int.mul_nonneg q0 hy0
    generalize Q * y1 = a at *
    omega
  · have : u32 / y1 < 4294967298 := Int.ediv_lt_of_lt_mul (by omega) (by omega)
    omega

end Go.Proofs.Ytjbblmdpiapmbaa.Div
