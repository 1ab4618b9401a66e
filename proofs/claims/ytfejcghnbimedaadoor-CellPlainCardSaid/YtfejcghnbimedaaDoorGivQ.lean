/- The function Parse of package dec comes to the plain function parseV: its walk. -/
import Derived.Test.YtfejcghnbimedaaDoorGivP
import Derived.Deep.DeepCutAuto
namespace Go.Proofs.YtfejcghnbimedaaDoor.Giv
open Go.RowKit Go.Proofs.YtfejcghnbimedaaDoor.PDecB Go.Proofs.YtfejcghnbimedaaDoorW.PrintWords
set_option linter.unusedVariables false
set_option linter.unusedSimpArgs false

theorem bt_by {s : ByteArray} {p : Nat} (h : p < s.size) : bt s (p : Int) = (by_ s p : Int) := by
  unfold bt
  rw [dif_pos (by simpa using h)]
  exact congrArg _ (by_get h)

theorem digit_f (s : ByteArray) (p : Nat) (hs : s.size ≤ 4611686018427387904) : dec_digit.f s (p : Int) = some (isD s p) := by
  unfold dec_digit.f isD
  by_cases h : p < s.size
  · have hb := by_lt s p
    simp only [bt_by h, h, decide_true, Bool.true_and]
    by_cases h1 : 48 ≤ by_ s p
    · by_cases h2 : by_ s p ≤ 57
      · rw [if_pos (by omega), if_pos (by omega), if_pos (by omega)]
        simp [h1]; omega
      · rw [if_pos (by omega), if_pos (by omega), if_pos (by omega)]
        simp [h1]; omega
    · rw [if_pos (by omega), if_pos (by omega), if_neg (by omega)]
      simp [h1]
  · rw [if_neg (by omega)]
    simp [h]
theorem digit_any (s : ByteArray) (p : Nat) (w : World) (hs : s.size ≤ 4611686018427387904) :
    Calls Tryd.prog 46 #[.string s, .int .i64 (p : Int)] w fun e w' => e = .returned (.bool (isD s p)) ∧ Drawn0 w w' := dec_digit.calls s p _ w (digit_f s p hs)

theorem signed_f (n : Int) (m : Bool) (h0 : 0 ≤ n) (h1 : n < 18446744073709551616) : dec_signed.f 1 n m = some (sgn n m) := by
  unfold dec_signed.f sgn
  cases m
  · simp only [dec_signed.j0, Bool.false_eq_true, if_false]
    by_cases h : n > 9223372036854775807
    · rw [if_pos h, if_pos trivial, if_neg (by omega)]
    · rw [if_neg h, if_neg (by simp; omega), if_pos (by omega)]
      have : wrap64 n = n := by unfold wrap64; omega
      rw [this]
  · simp only [dec_signed.j0, if_true]
    by_cases h : n > 9223372036854775808
    · rw [if_pos (by simpa using h), if_neg (by omega)]
    · rw [if_neg (by simpa using h), if_pos (by omega), w64]
      have : wrap64 (-n % 18446744073709551616) = -n := by unfold wrap64; omega
      rw [this]
theorem signed_any (n : Int) (m : Bool) (w : World) (h0 : 0 ≤ n) (h1 : n < 18446744073709551616) :
    Calls Tryd.prog 49 #[.int .u64 n, .bool m] w fun e w' => e = .returned (.tuple #[.int .i64 (sgn n m).1, .int .i64 (sgn n m).2]) ∧ Drawn0 w w' := dec_signed.calls 1 n m (sgn n m).1 (sgn n m).2 w (signed_f n m h0 h1)

theorem sk_le (s : ByteArray) : ∀ (d p : Nat), s.size - p ≤ d → p ≤ s.size → sk s p ≤ s.size := by
  intro d
  induction d with
  | zero =>
    intro p h1 h2
    rw [sk_no (by simp [isB]; omega)]; exact h2
  | succ d ih =>
    intro p h1 h2
    cases hb : isB s p with
    | true =>
      have : p < s.size := by simp [isB] at hb; omega
      rw [sk_yes hb]; exact ih (p + 1) (by omega) (by omega)
    | false => rw [sk_no hb]; exact h2

set_option maxRecDepth 1000000 in
theorem parse_any (s : ByteArray) (w : World) (hs : s.size ≤ 4611686018427387904) :
    Calls Tryd.prog 37 #[.string s] w fun e w' => e = .returned (.tuple #[.int .i64 (parseV s).1, .int .i64 (parseV s).2.1, .int .i64 (parseV s).2.2]) ∧ Below w.heap.size w w' := by
  obtain ⟨R, hR⟩ : ∃ R, R = parseV s := ⟨_, rfl⟩
  rw [← hR]
  have HR := Lib.hid hR
  clear hR
  have hsk0 : sk s 0 ≤ s.size := sk_le s s.size 0 (by omega) (by omega)
  go_enter Tryd.func37, Tryd.ntmps37
  go_upto_block 0 with (fail)
  go_cut [5] (fun v5 wc => v5 = .int .i64 (sk s 0 : Nat) ∧ w = wc)
  case first =>
    go_wp2_with fail
    go_loop [5] (fun v5 => ∃ p : Nat, v5 = .int .i64 p ∧ p ≤ s.size ∧ Hid (sk s p = sk s 0)) (fun v5 => s.size - (intOf v5).toNat)
    case atStart => exact ⟨0, rfl, by omega, rfl⟩
    case round =>
      obtain ⟨p, rfl, hp, HS⟩ := hrel
      have hlt256 := by_lt s p
      by_cases hlt : p < s.size
      · have hby : ∀ h : p < s.size, (s[p]'h).toNat = by_ s p := fun h => by_get h
        cases hbl : isB s p with
        | true =>
          have HK := Lib.hid ((sk_yes hbl).symm.trans HS.out)
          have hcs : by_ s p = 32 ∨ by_ s p = 9 ∨ by_ s p = 10 := by simp [isB, hlt] at hbl; omega
          clear hbl
          rcases hcs with h | h | h
          · have c1 : ((by_ s p : Int) == 32) = true := beq_iff_eq.2 (by omega)
            clear h
            go_wp2
            go_round
            case rel => exact ⟨p + 1, by go_num, by omega, HK.out⟩
            case measure => simp [intOf]; omega
          · have c1 : ((by_ s p : Int) == 32) = false := beq_eq_false_iff_ne.2 (by omega)
            have c2 : ((by_ s p : Int) == 9) = true := beq_iff_eq.2 (by omega)
            clear h
            go_wp2
            go_round
            case rel => exact ⟨p + 1, by go_num, by omega, HK.out⟩
            case measure => simp [intOf]; omega
          · have c1 : ((by_ s p : Int) == 32) = false := beq_eq_false_iff_ne.2 (by omega)
            have c2 : ((by_ s p : Int) == 9) = false := beq_eq_false_iff_ne.2 (by omega)
            have c3 : ((by_ s p : Int) == 10) = true := beq_iff_eq.2 (by omega)
            clear h
            go_wp2
            go_round
            case rel => exact ⟨p + 1, by go_num, by omega, HK.out⟩
            case measure => simp [intOf]; omega
        | false =>
          have HK := Lib.hid ((sk_no hbl).symm.trans HS.out)
          have c1 : ((by_ s p : Int) == 32) = false := beq_eq_false_iff_ne.2 (by simp [isB, hlt] at hbl; omega)
          have c2 : ((by_ s p : Int) == 9) = false := beq_eq_false_iff_ne.2 (by simp [isB, hlt] at hbl; omega)
          have c3 : ((by_ s p : Int) == 10) = false := beq_eq_false_iff_ne.2 (by simp [isB, hlt] at hbl; omega)
          clear hbl
          go_wp2
          go_meet
          case rel => exact ⟨by rw [HK.out], rfl⟩
      · have hbl : isB s p = false := by simp [isB, hlt]
        have HK := Lib.hid ((sk_no hbl).symm.trans HS.out)
        clear hbl
        go_wp2
        go_meet
        case rel => exact ⟨by rw [HK.out], rfl⟩
  case rest =>
    obtain ⟨rfl, rfl⟩ := hcut
    obtain ⟨q, hq⟩ : ∃ q, q = sk s 0 := ⟨_, rfl⟩
    rw [← hq] at hsk0 ⊢
    obtain ⟨m, hm⟩ : ∃ m, m = isMinus s q := ⟨_, rfl⟩
    obtain ⟨sg, hsg⟩ : ∃ sg, sg = (isMinus s q || isPlus s q) := ⟨_, rfl⟩
    have hf0 : from_ s = if sg = true then q + 1 else q := by unfold from_; rw [← hq, ← hsg]
    have hf1 : from_ s ≤ s.size := by
      rw [hf0]
      split
      · rename_i h
        have : q < s.size := by
          by_cases hlt : q < s.size
          · exact hlt
          · rw [hsg] at h; simp [isMinus, isPlus, hlt] at h
        omega
      · exact hsk0
    obtain ⟨f, hf⟩ : ∃ f, f = from_ s := ⟨_, rfl⟩
    rw [← hf] at hf1 hf0
    have HQ := Lib.hid hq
    have HM := Lib.hid hm
    have HSG := Lib.hid hsg
    have HF := Lib.hid hf
    have HF0 := Lib.hid hf0
    clear hq hm hsg hf hf0
    have hlt256 := by_lt s q
    have hby : ∀ h : q < s.size, (s[q]'h).toNat = by_ s q := fun h => by_get h
    go_upto_region 4 with (fail)
    go_cut [6] (fun v6 wq => v6 = .bool m ∧ w = wq)
    case first =>
      by_cases hlt : q < s.size
      · have hm : m = ((by_ s q : Int) == 45) := by rw [HM.out]; simp [isMinus, hlt]; rw [Bool.eq_iff_iff]; simp; omega
        have HM := Lib.hid hm
        clear hm
        go_wp2
        go_meet
        case rel => exact ⟨by rw [HM.out], rfl⟩
      · have hm : m = false := by rw [HM.out]; simp [isMinus, hlt]
        have HM := Lib.hid hm
        clear hm
        go_wp2
        go_meet
        case rel => exact ⟨by rw [HM.out], rfl⟩
    case rest =>
      obtain ⟨rfl, rfl⟩ := hcut
      go_upto_region 5 with (fail)
      go_cut [61] (fun v61 wd => v61 = .bool sg ∧ w = wd)
      case first =>
        cases m
        · by_cases hlt : q < s.size
          · have hm : sg = ((by_ s q : Int) == 43) := by rw [HSG.out, ← HM.out]; simp [isPlus, hlt]; rw [Bool.eq_iff_iff]; simp; omega
            have HM2 := Lib.hid hm
            clear hm
            go_wp2
            go_meet
            case rel => exact ⟨by rw [HM2.out], rfl⟩
          · have hm : sg = false := by rw [HSG.out, ← HM.out]; simp [isPlus, hlt]
            have HM2 := Lib.hid hm
            clear hm
            go_wp2
            go_meet
            case rel => exact ⟨by rw [HM2.out], rfl⟩
        · have hm : sg = true := by rw [HSG.out, ← HM.out]; simp
          have HM2 := Lib.hid hm
          clear hm
          go_wp2
          go_meet
          case rel => exact ⟨by rw [HM2.out], rfl⟩
      case rest =>
        obtain ⟨rfl, rfl⟩ := hcut
        go_upto_if 61 with (fail)
        go_cut [5] (fun v5 we => v5 = .int .i64 (f : Nat) ∧ w = we)
        case first =>
          cases sg
          · have hfr : f = q := by rw [HF0.out]; simp
            have HF := Lib.hid hfr
            clear hfr
            go_wp2
            go_meet
            case rel => exact ⟨by rw [HF.out], rfl⟩
          · have hfr : f = q + 1 := by rw [HF0.out]; simp
            have HF := Lib.hid hfr
            clear hfr
            go_wp2
            go_meet
            case rel => exact ⟨by rw [HF.out]; go_num, rfl⟩
        case rest =>
          obtain ⟨rfl, rfl⟩ := hcut
          clear hby hlt256
          go_wp2_with fail
          go_loopw [5] (fun v5 wr => ∃ (p : Nat) (n : Int) (o : Bool), v5 = .int .i64 p ∧ p ≤ s.size ∧ 0 ≤ n ∧ n < 18446744073709551616 ∧ Hid (Holds w.heap.size (n, o) wr) ∧ Below w.heap.size w wr ∧ Hid (ahead s p (n, o) = ahead s f (0, false))) (fun v5 _ => s.size - (intOf v5).toNat)
          case atStart =>
            refine ⟨f, 0, false, rfl, hf1, by omega, by omega, ?_, (Below.refl _ _).alloc (Nat.le_refl _) _, rfl⟩
            refine ⟨?_, ?_, ?_, ?_, by simp⟩
            · simp
            · simp
            · simp
            · simp
          case round =>
            obtain ⟨p, n, o, rfl, hp, hn0, hn1, HH, hbw, HA⟩ := hrel
            have HD := Lib.hid (fun wx => digit_any s p wx hs)
            cases hd : isD s p with
            | true =>
              rw [hd] at HD
              obtain ⟨hlt, hd0, hd1⟩ := isD_lt hd
              have HA2 := Lib.hid ((ahead_yes (st := (n, o)) hd).symm.trans HA.out)
              clear hd
              have hby : ∀ h : p < s.size, (s[p]'h).toNat = by_ s p := fun h => by_get h
              obtain ⟨c0, c1, z0, z1, hlt2⟩ := HH.out
              simp only at c0 c1
              have HMu := Lib.hid (fun wx => mul_any n 10 wx hn0 (by omega) hn1 (by omega))
              have hX0 : 0 ≤ n * 10 % 18446744073709551616 := by omega
              have hX1 : n * 10 % 18446744073709551616 < 18446744073709551616 := by omega
              have hdd0 : 48 ≤ (by_ s p : Int) := by omega
              have hdd1 : (by_ s p : Int) ≤ 57 := by omega
              obtain ⟨st2, hst2⟩ : ∃ st2 : St, st2 = addw (mulT (n, o)) (dgt s p * 1000000) := ⟨_, rfl⟩
              have hr2 : 0 ≤ st2.1 ∧ st2.1 < 18446744073709551616 := by rw [hst2]; unfold addw; simp only; omega
              have hmt : mulT (n, o) = (n * 10 % 18446744073709551616, o || decide (0 < n * 10 / 18446744073709551616)) := by
                unfold mulT
                simp only
                congr 2
                exact decide_eq_decide.2 ⟨fun h => by omega, fun h => by omega⟩
              have hx2 : addw (n * 10 % 18446744073709551616, o || decide (0 < n * 10 / 18446744073709551616)) (((by_ s p : Int) - 48) * 1000000) = st2 := by rw [hst2, hmt]; rfl
              have hA3 : ahead s (p + 1) st2 = ahead s f (0, false) := by rw [hst2]; exact HA2.out
              have HA3 := Lib.hid hA3
              have HX2 := Lib.hid hx2
              clear hst2 hmt hx2 hA3
              cases o
              · go_wp2_with (first | (go_at_call 46; refine (HD.out _).mono ?_; rintro e w1 ⟨rfl, ⟨n1, rfl⟩⟩) | (go_at_call 47; refine (HMu.out _).mono ?_; rintro e w2 ⟨rfl, ⟨n2, rfl⟩⟩) | (go_at_call 48; refine (next_any w.heap.size (n * 10 % 18446744073709551616, decide (0 < n * 10 / 18446744073709551616)) _ _ _ hdd0 hdd1 (by omega) (by omega) hX0 hX1 (HH.out.set _ _ _)).mono ?_; rintro e w3 ⟨rfl, hH3, hb3⟩))
                rw [Bool.false_or] at HX2
                rw [HX2.out] at hH3
                go_roundw
                case rel => exact ⟨p + 1, st2.1, st2.2, by go_num, by omega, hr2.1, hr2.2, hH3, (hbw.trans (below_set2 _ _ _ _)).trans hb3, HA3.out⟩
                case measure => simp [intOf]; omega
              · go_wp2_with (first | (go_at_call 46; refine (HD.out _).mono ?_; rintro e w1 ⟨rfl, ⟨n1, rfl⟩⟩) | (go_at_call 47; refine (HMu.out _).mono ?_; rintro e w2 ⟨rfl, ⟨n2, rfl⟩⟩) | (go_at_call 48; refine (next_any w.heap.size (n * 10 % 18446744073709551616, true) _ _ _ hdd0 hdd1 (by omega) (by omega) hX0 hX1 (HH.out.set _ _ _)).mono ?_; rintro e w3 ⟨rfl, hH3, hb3⟩))
                rw [Bool.true_or] at HX2
                rw [HX2.out] at hH3
                go_roundw
                case rel => exact ⟨p + 1, st2.1, st2.2, by go_num, by omega, hr2.1, hr2.2, hH3, (hbw.trans (below_set2 _ _ _ _)).trans hb3, HA3.out⟩
                case measure => simp [intOf]; omega
            | false =>
              rw [hd] at HD
              have ha := (ahead_no (st := (n, o)) hd).symm.trans HA.out
              have hfp : f ≤ p := by
                have := (ahead_le s s.size f (0, false) (by omega)).1
                rw [← ha] at this
                exact this
              obtain ⟨x, hx⟩ : ∃ x, x = (isDot s p && (decide (p ≠ f) || isD s (p + 1))) := ⟨_, rfl⟩
              have hdig : digits s = if x = true then ((behind s (p + 1) 1000000 (n, o)).1, (behind s (p + 1) 1000000 (n, o)).2, (p - f) + ((behind s (p + 1) 1000000 (n, o)).1 - (p + 1))) else (p, (n, o), p - f) := by
                unfold digits
                simp only
                rw [← HF.out, ← ha, ← hx]
              have HX := Lib.hid hx
              have HDG := Lib.hid hdig
              have HN := Lib.hid (fun wx => digit_any s (p + 1) wx hs)
              obtain ⟨W, rfl⟩ : ∃ W : World, W = wr := ⟨_, rfl⟩
              clear hd ha hx hdig HA
              have hlt256 := by_lt s p
              have hby : ∀ h : p < s.size, (s[p]'h).toNat = by_ s p := fun h => by_get h
              go_upto_region 15 with (go_at_call 46; refine (HD.out _).mono ?_; rintro e w1 ⟨rfl, ⟨n1, rfl⟩⟩)
              go_cut [111] (fun v111 wg => v111 = .bool x ∧ Hid (Holds w.heap.size (n, o) wg) ∧ Below w.heap.size w wg)
              case first =>
                by_cases hlt : p < s.size
                · cases hdt : isDot s p with
                  | true =>
                    have c1 : ((by_ s p : Int) == 46) = true := by simp [isDot, hlt] at hdt; exact beq_iff_eq.2 (by omega)
                    by_cases hpf : p = f
                    · have c2 : decide (f < p) = false := decide_eq_false (by omega)
                      have c3 : decide ((0 : Int) < (p : Int) - (f : Int)) = false := decide_eq_false (by omega)
                      have hx : isD s (p + 1) = x := by rw [HX.out, hdt]; simp [hpf]
                      rw [hx] at HN
                      have hn1 : ((p + 1 : Nat) : Int) = (p : Int) + 1 := by omega
                      rw [hn1] at HN
                      clear hx hdt hpf hn1
                      go_wp2_with (go_at_call 46; refine (HN.out _).mono ?_; rintro e w1 ⟨rfl, ⟨n1, rfl⟩⟩)
                      go_meet
                      case rel => exact ⟨rfl, HH.out, below_drewN hbw _⟩
                    · have c2 : decide (f < p) = true := decide_eq_true (by omega)
                      have c3 : decide ((0 : Int) < (p : Int) - (f : Int)) = true := decide_eq_true (by omega)
                      have hx : x = true := by rw [HX.out, hdt]; simp [hpf]
                      have HX3 := Lib.hid hx
                      clear hx hdt hpf
                      go_wp2
                      go_meet
                      case rel => exact ⟨by rw [HX3.out], HH.out, below_drewN hbw _⟩
                  | false =>
                    have c1 : ((by_ s p : Int) == 46) = false := by simp [isDot, hlt] at hdt; exact beq_eq_false_iff_ne.2 (by omega)
                    have hx : x = false := by rw [HX.out, hdt]; simp
                    have HX3 := Lib.hid hx
                    clear hx hdt
                    go_wp2
                    go_meet
                    case rel => exact ⟨by rw [HX3.out], HH.out, below_drewN hbw _⟩
                · have hx : x = false := by rw [HX.out]; simp [isDot, hlt]
                  have HX3 := Lib.hid hx
                  clear hx
                  go_wp2
                  go_meet
                  case rel => exact ⟨by rw [HX3.out], HH.out, below_drewN hbw _⟩
              case rest =>
                obtain ⟨rfl, HH2, hbg⟩ := hcut
                have HX0 : Hid (x = (isDot s p && (decide (p ≠ f) || isD s (p + 1)))) := HX
                clear HH hbw hby hlt256 HX HN HD
                go_upto_if 111 with (fail)
                go_cut [5, 11] (fun v5 v11 wh => ∃ (e many : Nat) (n2 : Int) (o2 : Bool), v5 = .int .i64 e ∧ v11 = .int .i64 many ∧ Hid (digits s = (e, (n2, o2), many)) ∧ 0 ≤ n2 ∧ n2 < 18446744073709551616 ∧ Hid (Holds w.heap.size (n2, o2) wh) ∧ Below w.heap.size w wh)
                case first =>
                  cases x
                  · have hdg : digits s = (p, (n, o), p - f) := by rw [HDG.out]; simp
                    have HDG2 := Lib.hid hdg
                    clear hdg
                    go_wp2
                    go_meet
                    case rel => exact ⟨p, p - f, n, o, rfl, by go_num, HDG2.out, hn0, hn1, HH2, hbg⟩
                  · have hdg : digits s = ((behind s (p + 1) 1000000 (n, o)).1, (behind s (p + 1) 1000000 (n, o)).2, (p - f) + ((behind s (p + 1) 1000000 (n, o)).1 - (p + 1))) := by rw [HDG.out]; simp
                    have HDG2 := Lib.hid hdg
                    have hps : p < s.size := by
                      by_cases h : p < s.size
                      · exact h
                      · have := HX0.out; simp [isDot, h] at this
                    obtain ⟨U, rfl⟩ : ∃ U : World, U = wc := ⟨_, rfl⟩
                    clear hdg
                    go_wp2_with fail
                    go_loopw [5, 11, 12] (fun v5 v11 v12 wr => ∃ (pp mm : Nat) (ww n2 : Int) (o2 : Bool), v5 = .int .i64 pp ∧ v11 = .int .i64 mm ∧ v12 = .int .u64 ww ∧ pp ≤ s.size ∧ p + 1 ≤ pp ∧ mm + (p + 1) = (p - f) + pp ∧ 0 ≤ ww ∧ ww ≤ 1000000 ∧ 0 ≤ n2 ∧ n2 < 18446744073709551616 ∧ Hid (Holds w.heap.size (n2, o2) wr) ∧ Below w.heap.size w wr ∧ Hid (behind s pp ww (n2, o2) = behind s (p + 1) 1000000 (n, o))) (fun v5 _ _ _ => s.size - (intOf v5).toNat)
                    case atStart => exact ⟨p + 1, p - f, 1000000, n, o, by go_num, by go_num, rfl, by omega, by omega, by omega, by omega, by omega, hn0, hn1, HH2, hbg, rfl⟩
                    case round =>
                      obtain ⟨pp, mm, ww, n2, o2, rfl, rfl, rfl, hpp, hpp2, hmm, hw0, hw1, hn20, hn21, HH3, hbw3, HB⟩ := hrel
                      have HD := Lib.hid (fun wx => digit_any s pp wx hs)
                      cases hd : isD s pp with
                      | true =>
                        rw [hd] at HD
                        obtain ⟨hlt, hd0, hd1⟩ := isD_lt hd
                        obtain ⟨st2, hst2⟩ : ∃ st2 : St, st2 = addw (n2, o2) (dgt s pp * (ww / 10)) := ⟨_, rfl⟩
                        have hr2 : 0 ≤ st2.1 ∧ st2.1 < 18446744073709551616 := by rw [hst2]; unfold addw; simp only; omega
                        have hB2 : behind s (pp + 1) (ww / 10) st2 = behind s (p + 1) 1000000 (n, o) := by rw [hst2]; exact (behind_yes (w := ww) (st := (n2, o2)) hd).symm.trans HB.out
                        have HB2 := Lib.hid hB2
                        have hx2 : addw (n2, o2) (((by_ s pp : Int) - 48) * (ww / 10)) = st2 := by rw [hst2]; rfl
                        have HX2 := Lib.hid hx2
                        have hdd0 : 48 ≤ (by_ s pp : Int) := by omega
                        have hdd1 : (by_ s pp : Int) ≤ 57 := by omega
                        have hww0 : 0 ≤ ww / 10 := by omega
                        have hww1 : ww / 10 ≤ 1000000 := by omega
                        clear hd hst2 hB2 hx2
                        have hby : ∀ h : pp < s.size, (s[pp]'h).toNat = by_ s pp := fun h => by_get h
                        go_wp2_with (first | (go_at_call 46; refine (HD.out _).mono ?_; rintro e w1 ⟨rfl, ⟨n1, rfl⟩⟩) | (go_at_call 48; refine (next_any w.heap.size (n2, o2) _ _ _ hdd0 hdd1 hww0 hww1 hn20 hn21 (by exact HH3.out)).mono ?_; rintro e w3 ⟨rfl, hH3, hb3⟩))
                        rw [HX2.out] at hH3
                        go_roundw
                        case rel => exact ⟨pp + 1, mm + 1, ww / 10, st2.1, st2.2, by go_num, by go_num, rfl, by omega, by omega, by omega, by omega, by omega, hr2.1, hr2.2, hH3, (below_drewN hbw3 _).trans hb3, HB2.out⟩
                        case measure => simp [intOf]; omega
                      | false =>
                        rw [hd] at HD
                        have hb := (behind_no (w := ww) (st := (n2, o2)) hd).symm.trans HB.out
                        have hdg : digits s = (pp, (n2, o2), mm) := by
                          rw [HDG2.out, ← hb]
                          simp only
                          have : p - f + (pp - (p + 1)) = mm := by omega
                          rw [this]
                        have HDG3 := Lib.hid hdg
                        clear hd hb hdg
                        go_wp2_with (go_at_call 46; refine (HD.out _).mono ?_; rintro e w1 ⟨rfl, ⟨n1, rfl⟩⟩)
                        go_meet
                        case rel => exact ⟨pp, mm, n2, o2, rfl, rfl, HDG3.out, hn20, hn21, HH3.out, below_drewN hbw3 _⟩
                case rest =>
                  obtain ⟨e, many, n2, o2, rfl, rfl, HDG3, hn20, hn21, HH3, hbh⟩ := hcut
                  have hm0 : m = isMinus s (sk s 0) := by rw [HM.out, HQ.out]
                  have hpv : R = if many = 0 then (0, 0, 0) else if o2 = true then (0, (e : Int), 10) else ((sgn n2 m).1, (e : Int), (sgn n2 m).2) := by
                    rw [HR.out, hm0]
                    unfold parseV
                    simp only [HDG3.out]
                  have HPV := Lib.hid hpv
                  have HS := Lib.hid (fun wx => signed_any n2 m wx hn20 hn21)
                  obtain ⟨c0, c1, z0, z1, hlt2⟩ := HH3.out
                  simp only at c0 c1
                  clear hm0 hpv HH2 hbg HDG hfp
                  by_cases hmz : many = 0
                  · have b1 : ((many : Int) == 0) = true := beq_iff_eq.2 (by omega)
                    have hR : R = (0, 0, 0) := by rw [HPV.out, if_pos hmz]
                    subst hR
                    clear hmz
                    go_wp2
                    go_ret3
                    exact ⟨rfl, hbh⟩
                  · have b1 : ((many : Int) == 0) = false := beq_eq_false_iff_ne.2 (by omega)
                    cases o2
                    · have hR : R = ((sgn n2 m).1, (e : Int), (sgn n2 m).2) := by rw [HPV.out, if_neg hmz]; simp
                      subst hR
                      clear hmz
                      go_wp2_with (go_at_call 49; refine (HS.out _).mono ?_; rintro e9 w1 ⟨rfl, ⟨n1, rfl⟩⟩)
                      go_ret3
                      exact ⟨rfl, below_drewN hbh _⟩
                    · have hR : R = (0, (e : Int), 10) := by rw [HPV.out, if_neg hmz]; simp
                      subst hR
                      clear hmz
                      go_wp2_with (go_at_call 49; refine (HS.out _).mono ?_; rintro e9 w1 ⟨rfl, ⟨n1, rfl⟩⟩)
                      go_ret3
                      exact ⟨rfl, below_drewN hbh _⟩

/-- 'Parse' as a whole. -/
def dec_Parse.f (s : ByteArray) : Option (Int × Int × Int) := if s.size ≤ 4611686018427387904 then some (parseV s) else none
theorem dec_Parse.calls (a0 : ByteArray) (r1 r2 r3 : Int) (w : World) (h : dec_Parse.f a0 = some (r1, r2, r3)) :
    Calls Tryd.prog 37 #[.string a0] w fun e w' => e = .returned (.tuple #[.int .i64 r1, .int .i64 r2, .int .i64 r3]) ∧ Below w.heap.size w w' := by
  unfold dec_Parse.f at h
  split at h
  · rename_i hs
    have h2 := Option.some.inj h
    have := parse_any a0 w hs
    rw [h2] at this
    exact this
  · cases h

end Go.Proofs.YtfejcghnbimedaaDoor.Giv
