/- The answer's disk: Load, walked by hand (written by mkref.py). -/
import Derived.Test.YtnaegemldpfllaaRfG
namespace Go.Proofs.Ytnaegemldpfllaa.Dis
open Go.RowKit Go.Proofs.YtnaegemldpfllaaW.PrintWords Go.Proofs.YtnaegemldpfllaaW.PrintLast Go.Proofs.YtnaegemldpfllaaW.PrintMore Go.Maps
set_option linter.unusedVariables false
set_option linter.unusedSimpArgs false
theorem slice_lohi (A : Option Addr) (n c lo m : Nat) (hm : lo + m ≤ c) (w : World) : (Instr.slice 28 (.slice A n c) (some (.int .i64 (lo : Int))) (some (.int .i64 ((lo + m : Nat) : Int))) none).run Try.prog w = .ok (.slice (if c = lo then A else A.map (·.add (lo * 1))) m (c - lo)) w := by
  have hc : (0 ≤ (lo : Int) ∧ (lo : Int) ≤ ((lo + m : Nat) : Int)) ∧ ((lo + m : Nat) : Int) ≤ (c : Int) := by omega
  have hu : (underlying 28).run Try.prog w = .ok (.slice 5) w := by kernel_rfl
  have hs : (sizeOf 5).run Try.prog w = .ok 1 w := by kernel_rfl
  have h1 : lo ≤ lo + m := by omega
  have h2 : lo + m - lo = m := by omega
  have h0 : 0 ≤ ((lo + m : Nat) : Int) := by omega
  have h3 : lo ≤ c := by omega
  have h4 : ((lo : Int) + (m : Int)).toNat = lo + m := by omega
  have h5 : ¬ ((lo : Int) + (m : Int) < 0) := by omega
  have h6 : ¬ ((c : Int) < (lo : Int) + (m : Int)) := by omega
  have h7 : (lo : Int) + (m : Int) ≤ c := by omega
  have h8 : 0 ≤ (lo : Int) + (m : Int) := by omega
  simp [Instr.slice, Instr.sliceBounds, Instr.sliceBound, asIntOf, hu, hs, hc, h1, h2, h0, h3, h4, h5, h6, h7, h8]
theorem exec_lohi {o : Oper} {a : Act} {W : World} {x y z : Operand} {A Ap : Option Addr} {n c lo m hi : Nat} (ho : o.op = .slice 28 x (some y) (some z) none) (hx : a.eval x = .slice A n c) (hy : a.eval y = .int .i64 (lo : Int)) (hz : a.eval z = .int .i64 (hi : Int)) (hh : hi = lo + m) (hm : lo + m ≤ c) (hA : Ap = if c = lo then A else A.map (·.add (lo * 1))) :
    (execOp a.eval o).run Try.prog W = .ok (.value (.slice Ap m (c - lo))) W := by
  have e : (Instr.sliceAt 28 (Value.slice A n c) (some (Value.int IntKind.i64 (lo : Int))) (some (Value.int IntKind.i64 (hi : Int))) none).run Try.prog W = .ok (.slice Ap m (c - lo)) W := by
    subst hh
    rw [hA]
    have := slice_lohi A n c lo m hm W
    simp only [Instr.sliceAt]
    first | exact this | simp [this]
  simp [execOp, ho, hx, hy, hz, e]
theorem C_piece {w : World} {A : Option Addr} {c lo : Nat} {img : List Int} (h : Kd.C (Kd.int .u8) w A img.length img) (h1 : lo ≤ img.length) (hc : img.length ≤ c) : Kd.C (Kd.int .u8) w (if c = lo then A else A.map (·.add (lo * 1))) ((img.drop lo).take 512).length ((img.drop lo).take 512) := by
  have h2 := Kd.C_drop (c := c) h h1 hc
  by_cases hh : 512 ≤ (img.drop lo).length
  · exact Kd.C_take h2 hh
  · rw [List.take_of_length_le (by omega)]
    exact h2
/-- The bytes of sector k of an image. -/
def piece (img : List Int) (k : Nat) : List Int := (img.drop (512 * k)).take 512
theorem piece_len (img : List Int) (k : Nat) : (piece img k).length = min 512 (img.length - 512 * k) := by unfold piece; rw [List.length_take, List.length_drop]
def loadTo (n : Int) (img : List Int) : Nat → Rf
  | 0 => newR n
  | k + 1 => setR (loadTo n img k) (k : Int) (pad (piece img k))
def loadN (n : Int) (len : Nat) : Nat := min (clampN n).toNat ((len + 511) / 512)
theorem loadTo_ok (n : Int) (img : List Int) : ∀ k, (loadTo n img k).at_.length = (loadTo n img k).b.length ∧ (loadTo n img k).at_.length ≤ k ∧ (loadTo n img k).to_ = [] ∧ (loadTo n img k).ws = [] ∧ (loadTo n img k).n = clampN n ∧ (loadTo n img k).left = 0 ∧ (loadTo n img k).armed = false ∧ (loadTo n img k).dead = false
  | 0 => ⟨rfl, Nat.le_refl _, rfl, rfl, rfl, rfl, rfl, rfl⟩
  | k + 1 => by
    obtain ⟨h1, h2, h3, h4, h5, h6, h7, h8⟩ := loadTo_ok n img k
    obtain ⟨g1, g2, g3, g4, g5, g6, g7, g8⟩ := setR_same (loadTo n img k) (k : Int) (pad (piece img k))
    exact ⟨g7 h1, by show (setR _ _ _).at_.length ≤ _; omega, g1.trans h3, g2.trans h4, g3.trans h5, g4.trans h6, g5.trans h7, g6.trans h8⟩
theorem clamp_bounds (n : Int) : 0 ≤ clampN n ∧ clampN n ≤ 4096 := by unfold clampN; omega
theorem nCell {base g : Nat} {w : World} {r : Rf} (h : IsRf base w g r) : w.cell? ⟨g, 0, none⟩ = some (.int .i64 r.n) := by
  obtain ⟨_, _, _, _, h⟩ := h
  exact (blk_cell h.blk 0).trans rfl
set_option maxHeartbeats 4000000 in
set_option maxRecDepth 100000 in
theorem rload_calls (n : Int) (Ab : Option Addr) (cb : Nat) (img : List Int) (w : World) (hC : Kd.C (Kd.int .u8) w Ab img.length img) (hcb : img.length ≤ cb) (hl : img.length ≤ 1000000) :
    Calls Try.prog 20 #[.int .i64 n, .slice Ab img.length cb] w fun e w' => ∃ g, e = .returned (.pointer (some ⟨g, 0, none⟩)) ∧ IsRf w.heap.size w' g (loadTo n img (loadN n img.length)) ∧ Below w.heap.size w w' := by
  have HC := Aside0.mk hC
  have HCB := Aside0.mk hcb
  obtain ⟨m, hm⟩ : ∃ m, m = clampN n := ⟨_, rfl⟩
  have hmb := clamp_bounds n
  rw [← hm] at hmb
  have HM := Aside0.mk hm
  obtain ⟨L, hL⟩ : ∃ L, L = img.length := ⟨_, rfl⟩
  rw [← hL] at hl hcb ⊢
  have HL := Aside0.mk hL
  have hKe : loadN n L = min m.toNat ((L + 511) / 512) := by unfold loadN; rw [← hm]
  obtain ⟨KK, hKK⟩ : ∃ KK, KK = loadN n L := ⟨_, rfl⟩
  rw [← hKK] at hKe ⊢
  have HKE := Aside0.mk hKe
  clear hC hcb hm hL hKe hKK
  go_enter Try.func20, Try.ntmps20
  go_upto_block 0 with (first
    | (go_at_call 32; refine (rnew_calls n w).mono ?_; rintro e w2 ⟨g, rfl, h1, h2, h3⟩; have HD := Aside0.mk h1; have HB := Aside0.mk h3; clear h1 h2 h3))
  go_wp2_with fail
  go_loopw [6] (fun x wr => ∃ k : Nat, k ≤ KK ∧ x = .int .i64 k ∧ Aside0 (IsRf w.heap.size wr g (loadTo n img k)) ∧ Aside0 (Below w.heap.size w wr)) (fun x _ => KK - (intOf x).toNat)
  case atStart => exact ⟨0, Nat.zero_le _, rfl, HD, HB⟩
  case round =>
    obtain ⟨k, hk, rfl, HDk, HBk⟩ := hrel
    have hcn := nCell HDk.out
    rw [(loadTo_ok n img k).2.2.2.2.1, ← HM.out] at hcn
    have hkb : k ≤ 4096 := by have := HKE.out; omega
    obtain ⟨lo, hlo⟩ : ∃ lo : Nat, lo = 512 * k := ⟨_, rfl⟩
    have hw1 : IntKind.i64.wrap (512 * (k : Int)) = (lo : Int) := by rw [IntKind.wrap_i64]; omega
    have HLO := Aside0.mk hlo
    by_cases h1 : (k : Int) < m
    · have e1 : decide ((k : Int) < m) = true := decide_eq_true h1
      by_cases h2 : lo < L
      · have e2 : decide ((lo : Int) < (L : Int)) = true := decide_eq_true (by omega)
        have hkK : k < KK := by have := HKE.out; omega
        obtain ⟨hi0, hhi0⟩ : ∃ hi0 : Nat, hi0 = lo + 512 := ⟨_, rfl⟩
        have hw2 : IntKind.i64.wrap ((lo : Int) + 512) = (hi0 : Int) := by rw [IntKind.wrap_i64]; omega
        have hpl := piece_len img k
        rw [← HL.out, ← hlo] at hpl
        obtain ⟨pl, hpl2⟩ : ∃ pl, pl = (piece img k).length := ⟨_, rfl⟩
        rw [← hpl2] at hpl
        have HPL := Aside0.mk hpl2
        have HCp := Aside0.mk (C_piece (lo := lo) (Kd.C_below HC.out HBk.out) (by rw [← HL.out]; omega) HCB.out)
        have hpe : (img.drop lo).take 512 = piece img k := by rw [hlo]; rfl
        rw [hpe] at HCp
        obtain ⟨Ap, hAp⟩ : ∃ Ap, Ap = if cb = lo then Ab else Ab.map (·.add (lo * 1)) := ⟨_, rfl⟩
        rw [← hAp] at HCp
        have HAP := Aside0.mk hAp
        clear hAp
        have HFU : Aside0 (∀ W', Kd.C (Kd.int .u8) W' Ap (piece img k).length (piece img k) → Calls Try.prog 34 #[.slice Ap pl (cb - lo)] W' fun e w' => ∃ v, e = .returned v ∧ Kd.R (Kd.int .u8) 5 w' W'.heap.size (fun _ => True) v (pad (piece img k)) ∧ Below W'.heap.size W' w') :=
          ⟨fun W' h => by rw [hpl2]; exact full_calls Ap (cb - lo) (piece img k) W' h (by rw [piece_len]; omega)⟩
        have hplc : lo + pl ≤ cb := by have := HCB.out; have := HL.out; omega
        have hp5 : pl ≤ 512 := by omega
        obtain ⟨hiv, hhiv⟩ : ∃ hiv : Nat, hiv = lo + pl := ⟨_, rfl⟩
        have HPV := Aside0.mk (And.intro hhiv (And.intro hplc hp5))
        have hok := loadTo_ok n img k
        have HOK := Aside0.mk hok
        by_cases h3 : L < hi0
        · have e3 : decide ((L : Int) < (hi0 : Int)) = true := decide_eq_true (by omega)
          have hLv : L = hiv := by omega
          subst hLv
          clear hok hpe hplc hp5 hhiv hpl hpl2 hhi0 hlo
          go_wp2_with (first
            | ((with_reducible refine gate_dst (N := 40) rfl ?_); refine wl_value rfl (exec_lohi (x := .tmp 36) (y := .tmp 38) (z := .tmp 39) (lo := lo) (m := pl) rfl rfl rfl rfl HPV.out.1 HPV.out.2.1 HAP.out) ?_)
            | (go_at_call 34; refine (HFU.out _ HCp.out).mono ?_; rintro e w5 ⟨v5, rfl, h4, h5⟩; obtain ⟨A5, c5, rfl⟩ := Kd.R_slice h4; have HO5 := Aside0.mk (Kd.R_lower h4 HBk.out.size); have HD5 := Aside0.mk (HDk.out.below h5); have HB5 := Aside0.mk (HBk.out.trans (h5.mono HBk.out.size)); clear h4 h5)
            | (go_at_call 33; refine (set_calls w.heap.size g (loadTo n img k) (k : Int) A5 c5 (pad (piece img k)) w _ HD5.out HB5.out HO5.out HOK.out.1 (by have := HOK.out.2.1; omega)).mono ?_; rintro e w6 ⟨rfl, h4, h5, _⟩; have HD6 := Aside0.mk h4; have HB6 := Aside0.mk h5; clear h4 h5))
          go_roundw
          case rel => exact ⟨k + 1, by omega, by go_num, HD6, HB6⟩
          case measure => simp [intOf]; omega
        · have e3 : decide ((L : Int) < (hi0 : Int)) = false := decide_eq_false (by omega)
          have hLv : hi0 = hiv := by omega
          subst hLv
          clear hok hpe hplc hp5 hhiv hpl hpl2 hhi0 hlo
          go_wp2_with (first
            | ((with_reducible refine gate_dst (N := 40) rfl ?_); refine wl_value rfl (exec_lohi (x := .tmp 36) (y := .tmp 38) (z := .tmp 39) (lo := lo) (m := pl) rfl rfl rfl rfl HPV.out.1 HPV.out.2.1 HAP.out) ?_)
            | (go_at_call 34; refine (HFU.out _ HCp.out).mono ?_; rintro e w5 ⟨v5, rfl, h4, h5⟩; obtain ⟨A5, c5, rfl⟩ := Kd.R_slice h4; have HO5 := Aside0.mk (Kd.R_lower h4 HBk.out.size); have HD5 := Aside0.mk (HDk.out.below h5); have HB5 := Aside0.mk (HBk.out.trans (h5.mono HBk.out.size)); clear h4 h5)
            | (go_at_call 33; refine (set_calls w.heap.size g (loadTo n img k) (k : Int) A5 c5 (pad (piece img k)) w _ HD5.out HB5.out HO5.out HOK.out.1 (by have := HOK.out.2.1; omega)).mono ?_; rintro e w6 ⟨rfl, h4, h5, _⟩; have HD6 := Aside0.mk h4; have HB6 := Aside0.mk h5; clear h4 h5))
          go_roundw
          case rel => exact ⟨k + 1, by omega, by go_num, HD6, HB6⟩
          case measure => simp [intOf]; omega
      · have e2 : decide ((lo : Int) < (L : Int)) = false := decide_eq_false (by omega)
        have hkK : k = KK := by have := HKE.out; omega
        subst hkK
        go_wp2
        go_ret
        exact ⟨_, rfl, HDk.out, HBk.out⟩
    · have e1 : decide ((k : Int) < m) = false := decide_eq_false h1
      have hkK : k = KK := by have := HKE.out; omega
      subst hkK
      go_wp2
      go_ret
      exact ⟨_, rfl, HDk.out, HBk.out⟩
end Go.Proofs.Ytnaegemldpfllaa.Dis
