/- The answer's Same at two lists that are one, walked by hand. -/
import Derived.Test.YtlccmkfkemilbaaStH
namespace Go.Proofs.Ytlccmkfkemilbaa.Bld
open Go.RowKit Go.Lib Go.Proofs.YtlccmkfkemilbaaW.PrintWords Go.Proofs.YtlccmkfkemilbaaW.PrintLast Go.Proofs.YtlccmkfkemilbaaW.PrintMore
set_option linter.unusedVariables false
set_option linter.unusedSimpArgs false
theorem add_off (a : Addr) (i j : Nat) (hj : j ≠ 0) : a.add (i + j) = ⟨(a.add i).block, (a.add i).off + j, none⟩ := by unfold Addr.add; by_cases hi : i = 0 <;> simp_all [Nat.add_assoc]
theorem file_at {w : World} {A : Option Addr} {n : Nat} {xs : List (ByteArray × ByteArray)} (h : fileK.C w A n xs) (k : Nat) (hk : k < n) :
    ∃ ad, A = some ad ∧ w.cell? (ad.add (k * 2)) = some (.string (xs.getD k (.empty, .empty)).1) ∧ w.cell? ⟨(ad.add (k * 2)).block, (ad.add (k * 2)).off + 1, none⟩ = some (.string (xs.getD k (.empty, .empty)).2) := by
  obtain ⟨ad, c, hA, hl, hK, hc⟩ := Kd.C_get h (ByteArray.empty, ByteArray.empty) (k : Int) (by omega) (by omega)
  simp only [Int.toNat_natCast] at hK hc
  have hs : fileK.sz = 2 := rfl
  rw [hs] at hc
  obtain ⟨c0, c1, rfl, h0, h1⟩ := hK
  obtain rfl : c0 = [.string _] := h0
  obtain rfl : c1 = [.string _] := h1
  refine ⟨ad, hA, hc 0 _ rfl, ?_⟩
  rw [← add_off _ _ 1 (by decide)]
  exact hc 1 _ rfl
set_option maxHeartbeats 4000000 in
set_option maxRecDepth 100000 in
theorem same_calls (A1 A2 : Option Addr) (n c1 c2 : Nat) (xs : List (ByteArray × ByteArray)) (W : World) (h1 : fileK.C W A1 n xs) (h2 : fileK.C W A2 n xs) (hn : n ≤ 1000000) :
    Calls Try.prog 11 #[.slice A1 n c1, .slice A2 n c2] W fun e w' => e = .returned (.bool true) ∧ Below W.heap.size W w' := by
  have H1 := Aside0.mk h1
  have H2 := Aside0.mk h2
  clear h1 h2
  go_enter Try.func11, Try.ntmps11
  go_wp2_with fail
  go_loopw [5] (fun x wr => ∃ k : Nat, k ≤ n ∧ x = .int .i64 k ∧ Aside0 (Below W.heap.size W wr)) (fun x _ => n - (intOf x).toNat)
  case atStart => exact ⟨0, Nat.zero_le _, rfl, ⟨Below.refl _ _⟩⟩
  case round =>
    obtain ⟨k, hk, rfl, HBk⟩ := hrel
    by_cases hlt : k < n
    · have e1 : decide ((k : Int) < n) = true := decide_eq_true (by omega)
      have e2 : decide (k < n) = true := decide_eq_true hlt
      obtain ⟨ad, hA, p0, p1⟩ := file_at (Kd.C_below H1.out HBk.out) k hlt
      obtain ⟨bd, hB, q0, q1⟩ := file_at (Kd.C_below H2.out HBk.out) k hlt
      subst hA
      subst hB
      obtain ⟨a, ha⟩ : ∃ a, a = (xs.getD k (.empty, .empty)).1 := ⟨_, rfl⟩
      obtain ⟨b, hb⟩ : ∃ b, b = (xs.getD k (.empty, .empty)).2 := ⟨_, rfl⟩
      rw [← ha] at p0 q0
      rw [← hb] at p1 q1
      have dp0 : wr.drew.cell? (ad.add (k * 2)) = some (.string a) := p0
      have dp1 : wr.drew.cell? ⟨(ad.add (k * 2)).block, (ad.add (k * 2)).off + 1, none⟩ = some (.string b) := p1
      have dq0 : wr.drew.cell? (bd.add (k * 2)) = some (.string a) := q0
      have dq1 : wr.drew.cell? ⟨(bd.add (k * 2)).block, (bd.add (k * 2)).off + 1, none⟩ = some (.string b) := q1
      clear ha hb
      go_upto_region 6 with fail
      go_region
      all_goals (
        go_wp2
        go_roundw
        case rel => exact ⟨k + 1, by omega, by go_num, ⟨below_drew HBk.out⟩⟩
        case measure => simp [intOf]; omega)
    · obtain rfl : k = n := by omega
      have e1 : decide ((k : Int) < k) = false := decide_eq_false (by omega)
      go_wp2
      go_ret
      exact ⟨rfl, HBk.out⟩
end Go.Proofs.Ytlccmkfkemilbaa.Bld
