/- bits.Div64: what it tells is the quotient (and some rest, of which nothing is asked). -/
import Derived.Test.YtjbblmdpiapmbaaDivS
import Derived.Test.YtjbblmdpiapmbaaDigA
set_option linter.unusedVariables false
set_option linter.unusedSimpArgs false
namespace Go.Proofs.Ytjbblmdpiapmbaa.Div
open Go.RowKit Go.Proofs.Ytjbblmdpiapmbaa.PDec Go.Proofs.YtjbblmdpiapmbaaW.PrintWords Go.Proofs.YtjbblmdpiapmbaaW.PrintMore Go.Proofs.Ytjbblmdpiapmbaa.Giv

theorem j2_at (y' s y1 y0 u32 u1 u0 q U g r : Int) (hy1 : y1 ≠ 0) (hU : IntKind.u64.wrap ((IntKind.u64.wrap ((IntKind.u64.wrap (u32 * 4294967296)) + u1)) - (IntKind.u64.wrap (q * y'))) = U)
    (hg : IntKind.u64.wrap (Int.tdiv U y1) = g) (hr : IntKind.u64.wrap (U - IntKind.u64.wrap (g * y1)) = r) (k : Nat) :
    bits_Div64.j2 (k + 1) y' s y1 y0 u32 u1 u0 q = bits_Div64.l1 k y' s y1 y0 u0 q r U g := by
  rw [bits_Div64.j2, if_neg hy1, hU, hg, hr]

theorem div_core (y' s u32 u1 u0 : Int) (hs : 0 ≤ s) (hy : 9223372036854775808 ≤ y') (hy' : y' < 18446744073709551616) (hu : 0 ≤ u32) (hul : u32 < y') (h1 : 0 ≤ u1) (h1' : u1 < 4294967296) (h0 : 0 ≤ u0) (h0' : u0 < 4294967296) :
    ∃ r2, Ev (fun k => bits_Div64.l0 k y' s (y' / 4294967296) (y' % 4294967296) u32 u1 u0 (u32 / (y' / 4294967296)) (u32 - u32 / (y' / 4294967296) * (y' / 4294967296))) ((u32 * 18446744073709551616 + u1 * 4294967296 + u0) / y', r2) := by
  obtain ⟨y1, hy1⟩ : ∃ y1, y1 = y' / 4294967296 := ⟨_, rfl⟩
  obtain ⟨y0, hy0⟩ : ∃ y0, y0 = y' % 4294967296 := ⟨_, rfl⟩
  have ey : y1 * 4294967296 + y0 = y' := by omega
  rw [← hy1, ← hy0]
  have a1 : 2147483648 ≤ y1 := by omega
  have a2 : y1 < 4294967296 := by omega
  have a3 : 0 ≤ y0 := by omega
  have a4 : y0 < 4294967296 := by omega
  clear hy1 hy0
  obtain ⟨Q1, hQ1⟩ : ∃ Q, Q = (u32 * 4294967296 + u1) / (y1 * 4294967296 + y0) := ⟨_, rfl⟩
  obtain ⟨f1, f2, f3, f4, f5, f6, f7⟩ := first_guess a1 a2 a3 a4 h1 h1' hu (by omega) hQ1
  obtain ⟨U, hU⟩ : ∃ U, U = (u32 * 4294967296 + u1) - Q1 * y' := ⟨_, rfl⟩
  have hUm : U = (u32 * 4294967296 + u1) % y' := by
    rw [hU, hQ1, ey]
    have := Int.emod_add_mul_ediv (u32 * 4294967296 + u1) y'
    rw [Int.mul_comm y'] at this
    generalize (u32 * 4294967296 + u1) / y' * y' = t at *
    generalize (u32 * 4294967296 + u1) % y' = t2 at *
    omega
  have U0 : 0 ≤ U := by rw [hUm]; exact Int.emod_nonneg _ (by omega)
  have U1 : U < y' := by rw [hUm]; exact Int.emod_lt_of_pos _ (by omega)
  obtain ⟨Q0, hQ0⟩ : ∃ Q, Q = (U * 4294967296 + u0) / (y1 * 4294967296 + y0) := ⟨_, rfl⟩
  obtain ⟨g1, g2, g3, g4, g5, g6, g7⟩ := first_guess a1 a2 a3 a4 h0 h0' U0 (by omega) hQ0
  obtain ⟨r2, hr2⟩ := loop1 y' s y1 y0 U u0 Q1 Q0 hs a1 a2 a3 a4 h0 h0' hQ0 g1 g2 f1 f2
  have hl1 := hr2 ((U / y1 - Q0).toNat) (U / y1) (U - U / y1 * y1) (by omega) g3 g4 g5 g6 (by omega)
  have hQ : (u32 * 18446744073709551616 + u1 * 4294967296 + u0) / y' = Q1 * 4294967296 + Q0 := by
    have e : u32 * 18446744073709551616 + u1 * 4294967296 + u0 = (U * 4294967296 + u0) + Q1 * 4294967296 * y' := by
      have : Q1 * 4294967296 * y' = (Q1 * y') * 4294967296 := by rw [Int.mul_right_comm]
      rw [this, hU]; omega
    rw [e, Int.add_mul_ediv_right _ _ (by omega), hQ0, ey]; omega
  rw [hQ]
  refine ⟨r2, ?_⟩
  have hj2 : Ev (fun k => bits_Div64.j2 k y' s y1 y0 u32 u1 u0 Q1) (Q1 * 4294967296 + Q0, r2) := by
    have q0 : 0 ≤ U / y1 := Int.ediv_nonneg U0 (by omega)
    refine Ev.step (f := fun k => bits_Div64.l1 k y' s y1 y0 u0 Q1 (U - U / y1 * y1) U (U / y1)) (fun k => ?_) hl1
    refine j2_at y' s y1 y0 u32 u1 u0 Q1 U (U / y1) (U - U / y1 * y1) (by omega) ?_ ?_ ?_ k
    · rw [u64, u64, u64, u64]
      generalize Q1 * y' = t at *
      omega
    · rw [Int.tdiv_eq_ediv_of_nonneg U0, w64_in q0 (by omega)]
    · have : 0 ≤ U / y1 * y1 := Int.mul_nonneg q0 (by omega)
      rw [w64_in (x := U / y1 * y1) this (by omega), w64_in (by omega) (by omega)]
  have q0 : 0 ≤ u32 / y1 := Int.ediv_nonneg hu (by omega)
  exact loop0 y' s y1 y0 u32 u1 u0 (Q1 * 4294967296 + Q0, r2) Q1 a1 a2 a3 a4 h1 h1' hQ1 f1 f2 hj2 ((u32 / y1 - Q1).toNat) (u32 / y1) (u32 - u32 / y1 * y1) (by omega) f3 f4 f5 f6 (by omega)

theorem or_words (a c : Int) (n : Nat) (hn : n ≤ 63) (ha : 0 ≤ a) (hc : 0 ≤ c) (hc' : c < 2 ^ n) (h : a * 2 ^ n + c < 18446744073709551616) : Go.bits .or .u64 (a * 2 ^ n) c = a * 2 ^ n + c := by
  obtain ⟨x, rfl⟩ := Int.eq_ofNat_of_zero_le ha
  obtain ⟨z, rfl⟩ := Int.eq_ofNat_of_zero_le hc
  have hz : z < 2 ^ n := by have : ((2 : Int) ^ n) = ((2 ^ n : Nat) : Int) := by simp
                            rw [this] at hc'; omega
  have e : (x : Int) * 2 ^ n = ((x <<< n : Nat) : Int) := by rw [Nat.shiftLeft_eq]; simp
  rw [e] at h ⊢
  have h1 : x <<< n < 18446744073709551616 := by generalize x <<< n = q at h; omega
  have h2 : z < 18446744073709551616 := by generalize x <<< n = q at h; omega
  rw [bits_or_u64_nat _ _ h1 h2, ← Nat.shiftLeft_add_eq_or_of_lt hz, Int.natCast_add]

theorem Div64_spec (hi lo y : Int) (y0 : 1 ≤ y) (y1 : y < 18446744073709551616) (h0 : 0 ≤ hi) (h1 : hi < y) (l0 : 0 ≤ lo) (l1 : lo < 18446744073709551616) :
    ∃ r2, Ev (fun k => bits_Div64.f k hi lo y) ((hi * 18446744073709551616 + lo) / y, r2) := by
  by_cases hz : hi = 0
  · refine ⟨Int.tmod lo y, 0, fun k _ => ?_⟩
    simp only [bits_Div64.f]
    have hq : lo / y ≤ lo := Int.ediv_le_self _ l0
    have hq0 : 0 ≤ lo / y := Int.ediv_nonneg l0 (by omega)
    rw [if_neg (by omega), if_neg (by omega), if_pos hz, hz, Int.tdiv_eq_ediv_of_nonneg l0, w64_in hq0 (by omega)]
    simp
  · obtain ⟨s, hs, hlz⟩ := lz_spec y y0 y1
    obtain ⟨s0, s1, b0, b1⟩ := hs
    obtain ⟨n, rfl⟩ := Int.eq_ofNat_of_zero_le s0
    rw [Int.toNat_natCast] at b0 b1
    obtain ⟨P, hP⟩ : ∃ P : Int, P = 2 ^ n := ⟨_, rfl⟩
    obtain ⟨R, hR⟩ : ∃ R : Int, R = 2 ^ (64 - n) := ⟨_, rfl⟩
    have hPR : P * R = 18446744073709551616 := by
      rw [hP, hR, ← Int.pow_add]
      have : n + (64 - n) = 64 := by omega
      rw [this]; rfl
    have hP0 : 0 < P := by rw [hP]; exact Int.pow_pos (by omega)
    have hR0 : 0 < R := by rw [hR]; exact Int.pow_pos (by omega)
    rw [← hP] at b0 b1
    have hiP : hi * P ≤ (y - 1) * P := Int.mul_le_mul_of_nonneg_right (by omega) (by omega)
    have hiP0 : 0 ≤ hi * P := Int.mul_nonneg h0 (by omega)
    rw [Int.sub_mul] at hiP
    have loR : lo / R < P := Int.ediv_lt_of_lt_mul hR0 (by rw [hPR]; omega)
    have loR0 : 0 ≤ lo / R := Int.ediv_nonneg l0 (by omega)
    have ws : IntKind.u64.wrap (n : Int) = (n : Int) := w64_in (by omega) (by omega)
    have ws2 : IntKind.u64.wrap (64 - (n : Int)) = ((64 - n : Nat) : Int) := by rw [w64_in (by omega) (by omega)]; omega
    have e1 : ∀ x : Int, shl .u64 x (n : Int) = x * P % 18446744073709551616 := fun x => by
      unfold shl
      rw [w64, Int.toNat_natCast]
      have : min n (IntKind.bits .u64) = n := Nat.min_eq_left (show n ≤ 64 by omega)
      rw [this, hP]
    have e2 : shr .u64 lo ((64 - n : Nat) : Int) = lo / R := by
      unfold shr
      rw [Int.toNat_natCast]
      have : min (64 - n) (IntKind.bits .u64) = 64 - n := Nat.min_eq_left (show 64 - n ≤ 64 by omega)
      rw [this, hR]
    have ey : shl .u64 y (n : Int) = y * P := by rw [e1]; omega
    have eh : shl .u64 hi (n : Int) = hi * P := by rw [e1]; omega
    have eor : Go.bits .or .u64 (hi * P) (lo / R) = hi * P + lo / R := by
      rw [hP]; rw [hP] at loR hiP b1
      exact or_words hi (lo / R) n (by omega) h0 loR0 loR (by omega)
    obtain ⟨U, hU⟩ : ∃ U, U = lo * P % 18446744073709551616 := ⟨_, rfl⟩
    have hloP : lo * P = lo / R * 18446744073709551616 + U := by
      have e : lo * P / (R * P) = lo / R := Int.mul_ediv_mul_of_pos_left _ _ hP0
      rw [Int.mul_comm R P, hPR] at e
      omega
    obtain ⟨r2, hc⟩ := div_core (y * P) n (hi * P + lo / R) (U / 4294967296) (U % 4294967296) (by omega) b0 b1 (by omega) (by omega) (by omega) (by omega) (by omega) (by omega)
    have hQ : ((hi * P + lo / R) * 18446744073709551616 + U / 4294967296 * 4294967296 + U % 4294967296) / (y * P) = (hi * 18446744073709551616 + lo) / y := by
      have e : (hi * P + lo / R) * 18446744073709551616 + U / 4294967296 * 4294967296 + U % 4294967296 = (hi * 18446744073709551616 + lo) * P := by
        rw [Int.add_mul (hi * 18446744073709551616), hloP, Int.mul_right_comm hi]
        omega
      rw [e, Int.mul_ediv_mul_of_pos_left _ _ hP0]
    rw [hQ] at hc
    refine ⟨r2, ?_⟩
    refine Ev.step (f := fun k => bits_Div64.l0 (k + 1) (y * P) n (y * P / 4294967296) (y * P % 4294967296) (hi * P + lo / R) (U / 4294967296) (U % 4294967296) ((hi * P + lo / R) / (y * P / 4294967296)) ((hi * P + lo / R) - (hi * P + lo / R) / (y * P / 4294967296) * (y * P / 4294967296))) (fun k => ?_) (by obtain ⟨K, hK⟩ := hc; exact ⟨K, fun k h => hK (k + 1) (by omega)⟩)
    simp only [bits_Div64.f]
    rw [if_neg (by omega), if_neg (by omega), if_neg hz, hlz]
    simp only [Option.bind_some]
    rw [ws, ws2, ey, eh, e1 lo, ← hU, e2, eor, if_pos (by omega), if_pos (by omega), if_neg (by omega)]
    rw [and_low32 _ (by omega) (by omega), and_low32 _ (by omega) (by omega)]
    have q0 : 0 ≤ (hi * P + lo / R) / (y * P / 4294967296) := Int.ediv_nonneg (by omega) (by omega)
    have qb : (hi * P + lo / R) / (y * P / 4294967296) < 18446744073709551616 := by
      have := Int.ediv_le_self (b := y * P / 4294967296) (show 0 ≤ hi * P + lo / R by omega)
      omega
    have qm := Int.ediv_mul_le (hi * P + lo / R) (show y * P / 4294967296 ≠ 0 by omega)
    have qm0 : 0 ≤ (hi * P + lo / R) / (y * P / 4294967296) * (y * P / 4294967296) := Int.mul_nonneg q0 (by omega)
    rw [Int.tdiv_eq_ediv_of_nonneg (by omega), w64_in q0 qb, w64_in qm0 (by omega), w64_in (by omega) (by omega)]

end Go.Proofs.Ytjbblmdpiapmbaa.Div
