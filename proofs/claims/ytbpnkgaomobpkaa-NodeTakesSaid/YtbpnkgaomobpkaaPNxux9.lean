/- The functions that a law uses, as plain Lean functions with proofs that the Go code comes to them; written by a program of this session (gprint.py). -/
import Derived.Test.YtbpnkgaomobpkaaPNxux0
import Derived.Test.YtbpnkgaomobpkaaPNxux7
import Derived.Test.YtbpnkgaomobpkaaPNxux8
namespace Go.Proofs.Ytbpnkgaomobpkaa.PNxu
open Go.Proofs.Ytbpnkgaomobpkaa.Giv
open Go.RowKit Go.Proofs.YtbpnkgaomobpkaaW.PrintWords Go.Proofs.YtbpnkgaomobpkaaW.PrintLast Go.Proofs.YtbpnkgaomobpkaaW.PrintMore
attribute [local go_sem] max2_int min2_int max_two min_two max_three min_three max_four min_four   -- for this text's walks alone
set_option linter.unusedVariables false
set_option linter.unusedSimpArgs false

/-! ### aukletref22_Take: function 14 -/
mutual
def aukletref22_Take.j0 : Nat → List Int → Bool → Option (Bool × List ByteArray × List ByteArray × List Int × Int)
  | 0, _, _ => none
  | k + 1, x0, x30 => if x30 = true then (some (false, ([] : List ByteArray), ([] : List ByteArray), ([] : List Int), 200)) else (if 0 < (x0.length : Int) then (if 1 ≤ 3 then (if 3 ≤ (x0.length : Int) then ((aukletref20_Num.f k ((x0.take 3).drop 1)).bind fun t285 => (if ((rd x0 0) = 1) then (aukletref22_Take.j1 k x0 3 (wrap64 (t285)) ((rd x0 0) == 1) ([] : List Int)) else (if 3 ≤ 7 then (if 7 ≤ (x0.length : Int) then ((aukletref20_Num.f k ((x0.take 7).drop 3)).bind fun t288 => (if ([] : List Int).length < 17592186044416 then (aukletref22_Take.j1 k x0 7 (wrap64 (t285)) ((rd x0 0) == 1) (([] : List Int) ++ [wrap64 (t288)])) else (none))) else (none)) else (none)))) else (none)) else (none)) else (none))
def aukletref22_Take.j1 : Nat → List Int → Int → Int → Bool → List Int → Option (Bool × List ByteArray × List ByteArray × List Int × Int)
  | 0, _, _, _, _, _ => none
  | k + 1, x0, x5, x6, x287000, x287003 => aukletref22_Take.l0 k x0 x5 x6 0 x287000 ([] : List ByteArray) ([] : List ByteArray) x287003
def aukletref22_Take.l0 : Nat → List Int → Int → Int → Int → Bool → List ByteArray → List ByteArray → List Int → Option (Bool × List ByteArray × List ByteArray × List Int × Int)
  | 0, _, _, _, _, _, _, _, _ => none
  | k + 1, x0, x5, x6, x7, x287000, x287001, x287002, x287003 => if x7 < x6 then ((aukletref22_text1.f x0 x5).bind fun bt296 => (if bt296.2.2 = true then (if x287001.length < 8796093022208 then ((some (x287001 ++ [bt296.1] : List ByteArray)).bind fun y299 => (if x287000 = true then ((aukletref22_text1.f x0 bt296.2.1).bind fun bt302 => (if bt302.2.2 = true then (if x287002.length < 8796093022208 then (aukletref22_Take.l0 k x0 bt302.2.1 x6 (wrap64 (x7 + 1)) x287000 y299 (x287002 ++ [bt302.1]) x287003) else (none)) else (some (false, ([] : List ByteArray), ([] : List ByteArray), ([] : List Int), 200)))) else (if (wrap64 (bt296.2.1 + 4)) > 512 then (some (false, ([] : List ByteArray), ([] : List ByteArray), ([] : List Int), 200)) else (if 0 ≤ bt296.2.1 then (if bt296.2.1 ≤ (wrap64 (bt296.2.1 + 4)) then (if (wrap64 (bt296.2.1 + 4)) ≤ (x0.length : Int) then ((aukletref20_Num.f k ((x0.take ((wrap64 (bt296.2.1 + 4)) : Int).toNat).drop (bt296.2.1 : Int).toNat)).bind fun t309 => (if x287003.length < 17592186044416 then (aukletref22_Take.l0 k x0 (wrap64 (bt296.2.1 + 4)) x6 (wrap64 (x7 + 1)) x287000 y299 x287002 (x287003 ++ [wrap64 (t309)])) else (none))) else (none)) else (none)) else (none))))) else (none)) else (some (false, ([] : List ByteArray), ([] : List ByteArray), ([] : List Int), 200)))) else ((aukletref22_Put.f k x287000 x287001 x287002 x287003).bind fun bt292 => (if bt292.2 = 0 then (if (strOfNums bt292.1).toList = (strOfNums x0).toList then (some (x287000, x287001, x287002, x287003, 0)) else (some (false, ([] : List ByteArray), ([] : List ByteArray), ([] : List Int), 200))) else (some (false, ([] : List ByteArray), ([] : List ByteArray), ([] : List Int), 200))))
end
def aukletref22_Take.f (k : Nat) (l0 : List Int) : Option (Bool × List ByteArray × List ByteArray × List Int × Int) := if (l0.length : Int) = 512 then (if 0 < (l0.length : Int) then (if (rd l0 0) = 1 then (aukletref22_Take.j0 k l0 false) else (aukletref22_Take.j0 k l0 ((rd l0 0) != 2))) else (none)) else (aukletref22_Take.j0 k l0 true)
theorem aukletref22_Take.mono_l : ∀ k, (∀ y0 y1, LeO (aukletref22_Take.j0 k y0 y1) (aukletref22_Take.j0 (k + 1) y0 y1)) ∧ (∀ y0 y1 y2 y3 y4, LeO (aukletref22_Take.j1 k y0 y1 y2 y3 y4) (aukletref22_Take.j1 (k + 1) y0 y1 y2 y3 y4)) ∧ (∀ y0 y1 y2 y3 y4 y5 y6 y7, LeO (aukletref22_Take.l0 k y0 y1 y2 y3 y4 y5 y6 y7) (aukletref22_Take.l0 (k + 1) y0 y1 y2 y3 y4 y5 y6 y7))
  | 0 => ⟨fun _ _ r h => by simp [aukletref22_Take.j0] at h, fun _ _ _ _ _ r h => by simp [aukletref22_Take.j1] at h, fun _ _ _ _ _ _ _ _ r h => by simp [aukletref22_Take.l0] at h⟩
  | k + 1 => by
    obtain ⟨ih0, ih1, ih2⟩ := aukletref22_Take.mono_l k
    refine ⟨?_, ?_, ?_⟩
    · intro y0 y1
      unfold aukletref22_Take.j0
      repeat' first
      | (with_reducible exact ih0 _ _)
      | (with_reducible exact ih1 _ _ _ _ _)
      | (with_reducible exact ih2 _ _ _ _ _ _ _ _)
      | (with_reducible exact aukletref20_Num.mono _ _)
      | (with_reducible exact aukletref22_Put.mono _ _ _ _ _)
      | (with_reducible exact LeO.refl _)
      | (with_reducible exact LeO.none _)
      | (with_reducible refine LeO.ite ?_ ?_)
      | (with_reducible refine LeO.bind ?_ (fun _ => ?_))
      | exact ih0 _ _
      | exact ih1 _ _ _ _ _
      | exact ih2 _ _ _ _ _ _ _ _
      | exact aukletref20_Num.mono _ _
      | exact aukletref22_Put.mono _ _ _ _ _
      | exact LeO.none _
      | refine LeO.ite ?_ ?_
      | refine LeO.bind ?_ (fun _ => ?_)
    · intro y0 y1 y2 y3 y4
      unfold aukletref22_Take.j1
      repeat' first
      | (with_reducible exact ih0 _ _)
      | (with_reducible exact ih1 _ _ _ _ _)
      | (with_reducible exact ih2 _ _ _ _ _ _ _ _)
      | (with_reducible exact aukletref20_Num.mono _ _)
      | (with_reducible exact aukletref22_Put.mono _ _ _ _ _)
      | (with_reducible exact LeO.refl _)
      | (with_reducible exact LeO.none _)
      | (with_reducible refine LeO.ite ?_ ?_)
      | (with_reducible refine LeO.bind ?_ (fun _ => ?_))
      | exact ih0 _ _
      | exact ih1 _ _ _ _ _
      | exact ih2 _ _ _ _ _ _ _ _
      | exact aukletref20_Num.mono _ _
      | exact aukletref22_Put.mono _ _ _ _ _
      | exact LeO.none _
      | refine LeO.ite ?_ ?_
      | refine LeO.bind ?_ (fun _ => ?_)
    · intro y0 y1 y2 y3 y4 y5 y6 y7
      unfold aukletref22_Take.l0
      repeat' first
      | (with_reducible exact ih0 _ _)
      | (with_reducible exact ih1 _ _ _ _ _)
      | (with_reducible exact ih2 _ _ _ _ _ _ _ _)
      | (with_reducible exact aukletref20_Num.mono _ _)
      | (with_reducible exact aukletref22_Put.mono _ _ _ _ _)
      | (with_reducible exact LeO.refl _)
      | (with_reducible exact LeO.none _)
      | (with_reducible refine LeO.ite ?_ ?_)
      | (with_reducible refine LeO.bind ?_ (fun _ => ?_))
      | exact ih0 _ _
      | exact ih1 _ _ _ _ _
      | exact ih2 _ _ _ _ _ _ _ _
      | exact aukletref20_Num.mono _ _
      | exact aukletref22_Put.mono _ _ _ _ _
      | exact LeO.none _
      | refine LeO.ite ?_ ?_
      | refine LeO.bind ?_ (fun _ => ?_)
theorem aukletref22_Take.mono : ∀ a0 k, LeO (aukletref22_Take.f k a0) (aukletref22_Take.f (k + 1) a0) := by
  intro a0 k
  obtain ⟨ih0, ih1, ih2⟩ := aukletref22_Take.mono_l k
  unfold aukletref22_Take.f
  repeat' first
      | (with_reducible exact ih0 _ _)
      | (with_reducible exact ih1 _ _ _ _ _)
      | (with_reducible exact ih2 _ _ _ _ _ _ _ _)
      | (with_reducible exact aukletref20_Num.mono _ _)
      | (with_reducible exact aukletref22_Put.mono _ _ _ _ _)
      | (with_reducible exact LeO.refl _)
      | (with_reducible exact LeO.none _)
      | (with_reducible refine LeO.ite ?_ ?_)
      | (with_reducible refine LeO.bind ?_ (fun _ => ?_))
      | exact ih0 _ _
      | exact ih1 _ _ _ _ _
      | exact ih2 _ _ _ _ _ _ _ _
      | exact aukletref20_Num.mono _ _
      | exact aukletref22_Put.mono _ _ _ _ _
      | exact LeO.none _
      | refine LeO.ite ?_ ?_
      | refine LeO.bind ?_ (fun _ => ?_)
def aukletref22_Take.T3 : Bool × List (List Nat × List Nat) := (true, [([], []), ([0], [0]), ([1], [1]), ([2], [2]), ([3], [3]), ([], []), ([5], [5]), ([6], [6]), ([7], [7]), ([], []), ([9, 4, 7, 0, 1, 2, 3, 4, 9], [4, 9]), ([10, 0, 1, 2, 3, 4, 9, 10], []), ([8, 11, 0, 1, 2, 3, 4, 5, 6, 7, 8, 9, 10, 11], [8])])
def aukletref22_Take.B3 : List Nat := [0, 1, 3, 7, 15, 0, 32, 96, 224, 0, 767, 1791, 4095]
theorem aukletref22_Take.tab3 : rtab .any (opsOf Try.f14 3) = aukletref22_Take.T3 := by kernel_rfl
theorem aukletref22_Take.bits3 : waitsOk aukletref22_Take.T3.2 aukletref22_Take.B3 = true := by kernel_rfl
def aukletref22_Take.T5 : Bool × List (List Nat × List Nat) := (true, [([], []), ([0], [0]), ([], []), ([2], [2]), ([3], [3]), ([4], [4]), ([5], [5]), ([1, 6, 4], [1, 6]), ([0, 1, 2, 3, 4, 5, 6, 7], []), ([8, 7, 7, 0, 1, 2, 3, 4, 5, 6, 7], [7, 8]), ([9, 0, 1, 2, 3, 4, 5, 6, 7, 8, 9], [])])
def aukletref22_Take.B5 : List Nat := [0, 1, 0, 4, 12, 28, 60, 127, 255, 511, 1023]
theorem aukletref22_Take.tab5 : rtab .any (opsOf Try.f14 5) = aukletref22_Take.T5 := by kernel_rfl
theorem aukletref22_Take.bits5 : waitsOk aukletref22_Take.T5.2 aukletref22_Take.B5 = true := by kernel_rfl
def aukletref22_Take.T20 : Bool × List (List Nat × List Nat) := (true, [([], []), ([0], [0]), ([], []), ([], []), ([], []), ([4], [4]), ([2, 3, 5], [2, 3, 5]), ([6], [6]), ([7], [7]), ([8], [8]), ([1, 9, 7], [1, 9]), ([], []), ([11], [11]), ([0, 1, 2, 3, 4, 5, 6, 7, 8, 9, 10], []), ([13, 10, 10, 0, 1, 2, 3, 4, 5, 6, 7, 8, 9, 10], [10, 13]), ([12, 14, 0, 1, 2, 3, 4, 5, 6, 7, 8, 9, 10, 11, 12, 13, 14], [12])])
def aukletref22_Take.B20 : List Nat := [0, 1, 0, 0, 0, 16, 60, 124, 252, 508, 1023, 0, 2048, 2047, 10239, 32767]
theorem aukletref22_Take.tab20 : rtab .any (opsOf Try.f14 20) = aukletref22_Take.T20 := by kernel_rfl
theorem aukletref22_Take.bits20 : waitsOk aukletref22_Take.T20.2 aukletref22_Take.B20 = true := by kernel_rfl
set_option maxHeartbeats 8000000 in
set_option maxRecDepth 100000 in
theorem aukletref22_Take.calls (k : Nat) (A0 : Option Addr) (c0 : Nat) (l0 : List Int) (r1 : Bool) (r2 : List ByteArray) (r3 : List ByteArray) (r4 : List Int) (r5 : Int) (w : World) (hr0 : Kd.C (Kd.int .u8) w A0 l0.length l0) (hc0 : l0.length ≤ c0) (h : aukletref22_Take.f k l0 = some (r1, r2, r3, r4, r5)) :
    Calls Try.prog 14 #[.slice A0 l0.length c0] w fun e w' => ∃ v1_ v2_ v3_ : Value, e = .returned (.tuple #[.agg #[.bool r1, v1_, v2_, v3_], .int .i64 r5]) ∧ Kd.R Kd.string 9 w' w.heap.size (fun k_ => some k_ ≠ (v2_ : Value).ownBlock) v1_ r2 ∧ Kd.R Kd.string 9 w' w.heap.size (fun k_ => some k_ ≠ (v1_ : Value).ownBlock) v2_ r3 ∧ Kd.R (Kd.int .i64) 3 w' w.heap.size (fun _ => True) v3_ r4 ∧ Below w.heap.size w w' := by
  have hu25 := Try.underlying25
  have HR0 := Aside0.mk hr0
  have HC0 := Aside0.mk hc0
  clear hr0 hc0
  have HB := Aside0.mk (Below.refl w.heap.size w)
  have H : (if (l0.length : Int) = 512 then (if 0 < (l0.length : Int) then (if (rd l0 0) = 1 then (aukletref22_Take.j0 k l0 false) else (aukletref22_Take.j0 k l0 ((rd l0 0) != 2))) else (none)) else (aukletref22_Take.j0 k l0 true)) = some (r1, r2, r3, r4, r5) := h
  clear h
  have HC2 := Aside0.mk H
  clear H
  go_enter Try.func14, Try.ntmps14
  go_upto_region 1 with (first | ((with_reducible refine gate_dst (N := 2) rfl ?_); refine box_event ?hg (N := 2) ?hd (cs := #[.bool false, .slice none 0 0, .slice none 0 0, .slice none 0 0]) (t := 25) ?hr ?_; (case hd => rfl); (case hg => rfl); (case hr => first | (go_simp; done) | (go_simp; rfl)); intro gb280 hg w3 hbox hb; have n0_ := Aside0.mk (below_step (by repeat (first | (with_reducible first | exact HB.out | apply below_alloc | apply pw_below_drewN | apply below_drew1) | exact HB.out)) hb); have n1_ := Aside0.mk (hbox); have n2_ := Aside0.mk ((by rw [hg]; exact (below_size (by repeat (first | (with_reducible first | exact HB.out | apply below_alloc | apply pw_below_drewN | apply below_drew1) | exact HB.out))) : w.heap.size ≤ gb280)); have n3_ := Aside0.mk ((by rw [hg]; exact (below_size (by repeat (first | (with_reducible first | exact HB.out | apply below_alloc | apply pw_below_drewN | apply below_drew1) | exact HB.out))) : w.heap.size ≤ gb280)); clear HB; have HB := n0_; have BK280 := n1_; have GW280 := n2_; have GE280 := n3_; clear n0_ n1_ n2_ n3_; clear hb hbox hg))
  (try simp only [Act.put, List.setIfInBounds_toArray, List.set_cons_zero, List.set_cons_succ])
  go_cut [30] (fun v30 wc => ∃ (kq : Nat) (x30_1 : Bool), v30 = .bool x30_1 ∧ Aside0 (aukletref22_Take.j0 kq l0 x30_1 = some (r1, r2, r3, r4, r5)) ∧ Aside0 (kq ≤ k) ∧ Aside0 (wc.heap[gb280]? = some (.cells #[.bool false, (.slice none 0 0), (.slice none 0 0), (.slice none 0 0)] 25 (0, 0))) ∧ Aside0 (Below w.heap.size w wc))
  case first =>
    have H := HC2.out
    clear HC2
    by_cases c4 : (l0.length : Int) = 512
    · rw [if_pos c4] at H
      have c4b0 : ((l0.length : Int) == 512) = true := beq_iff_eq.mpr c4
      have c4b1 : ((l0.length : Int) != 512) = false := bne_eq_false_iff_eq.mpr c4
      clear c4
      (first | rw [c4b0] | (simp only [i64_w, i32_w]; rw [c4b0]) | skip)
      by_cases c5 : 0 < (l0.length : Int)
      · rw [if_pos c5] at H
        have c5b0 : decide (0 < (l0.length : Int)) = true := decide_eq_true c5
        have c5b1 : decide (0 < l0.length) = true := decide_eq_true (by omega)
        clear c5
        by_cases c6 : (rd l0 0) = 1
        · rw [if_pos c6] at H
          have c6b0 : ((rd l0 0) == 1) = true := beq_iff_eq.mpr c6
          have c6b1 : ((rd l0 0) != 1) = false := bne_eq_false_iff_eq.mpr c6
          clear c6
          have H' := Aside0.mk H
          clear H
          have p281 : 0 ≤ (0 : Int) := (by omega)
          have q281 : 0 < (l0.length : Int) := of_decide_eq_true (by first | (with_reducible assumption) | assumption)
          obtain ⟨ad281, e281, hx281_0⟩ := Kd.at_int HR0.out 0 p281 q281
          cases e281
          have qi281 : (0 < l0.length) = True := eq_true (by omega)
          (try rw [show ((0 : Int)).toNat = 0 from rfl] at hx281_0)
          (try rw [Addr.add_zero'] at hx281_0)
          replace hx281_0 := (HB.out.cell (World.block_lt_of_cell? w _ hx281_0)).trans hx281_0
          replace p281 := eq_true p281
          replace q281 := eq_true q281
          go_wp2
          go_meet
          case rel => exact ⟨_, (false), (by first | rfl | (simp; done) | (simp [*]; done)), H', ⟨by first | omega | exact Nat.le_refl _⟩, ⟨by (with_reducible repeat (first | refine blk_drewN ?_ _ | refine blk_drew ?_ | refine blk_alloc ?_ _)); exact BK280.out⟩, ⟨by repeat (first | (with_reducible first | exact HB.out | apply below_alloc | apply pw_below_drewN | apply below_drew1 | refine below_set ?_ GE280.out) | exact HB.out)⟩⟩
        · rw [if_neg c6] at H
          have c6b0 : ((rd l0 0) == 1) = false := beq_eq_false_iff_ne.mpr c6
          have c6b1 : ((rd l0 0) != 1) = true := bne_iff_ne.mpr c6
          have H' := Aside0.mk H
          clear H
          have p281 : 0 ≤ (0 : Int) := (by omega)
          have q281 : 0 < (l0.length : Int) := of_decide_eq_true (by first | (with_reducible assumption) | assumption)
          obtain ⟨ad281, e281, hx281_0⟩ := Kd.at_int HR0.out 0 p281 q281
          cases e281
          have qi281 : (0 < l0.length) = True := eq_true (by omega)
          (try rw [show ((0 : Int)).toNat = 0 from rfl] at hx281_0)
          (try rw [Addr.add_zero'] at hx281_0)
          replace hx281_0 := (HB.out.cell (World.block_lt_of_cell? w _ hx281_0)).trans hx281_0
          replace p281 := eq_true p281
          replace q281 := eq_true q281
          have p282 : 0 ≤ (0 : Int) := (by omega)
          have q282 : 0 < (l0.length : Int) := of_decide_eq_true (by first | (with_reducible assumption) | assumption)
          obtain ⟨ad282, e282, hx282_0⟩ := Kd.at_int HR0.out 0 p282 q282
          obtain rfl : ad281 = ad282 := (by injection e282)
          have qi282 : (0 < l0.length) = True := eq_true (by omega)
          (try rw [show ((0 : Int)).toNat = 0 from rfl] at hx282_0)
          (try rw [Addr.add_zero'] at hx282_0)
          replace hx282_0 := (HB.out.cell (World.block_lt_of_cell? w _ hx282_0)).trans hx282_0
          replace p282 := eq_true p282
          replace q282 := eq_true q282
          go_wp2
          go_meet
          case rel => exact ⟨_, (((rd l0 0) != 2)), (by first | rfl | (simp; done) | (simp [*]; done)), H', ⟨by first | omega | exact Nat.le_refl _⟩, ⟨by (with_reducible repeat (first | refine blk_drewN ?_ _ | refine blk_drew ?_ | refine blk_alloc ?_ _)); exact BK280.out⟩, ⟨by repeat (first | (with_reducible first | exact HB.out | apply below_alloc | apply pw_below_drewN | apply below_drew1 | refine below_set ?_ GE280.out) | exact HB.out)⟩⟩
      · rw [if_neg c5] at H
        exact absurd H (by simp)
    · rw [if_neg c4] at H
      have c4b0 : ((l0.length : Int) == 512) = false := beq_eq_false_iff_ne.mpr c4
      have c4b1 : ((l0.length : Int) != 512) = true := bne_iff_ne.mpr c4
      (first | rw [c4b0] | (simp only [i64_w, i32_w]; rw [c4b0]) | skip)
      have H' := Aside0.mk H
      clear H
      go_wp2
      go_meet
      case rel => exact ⟨_, (true), (by first | rfl | (simp; done) | (simp [*]; done)), H', ⟨by first | omega | exact Nat.le_refl _⟩, ⟨by (with_reducible repeat (first | refine blk_drewN ?_ _ | refine blk_drew ?_ | refine blk_alloc ?_ _)); exact BK280.out⟩, ⟨by repeat (first | (with_reducible first | exact HB.out | apply below_alloc | apply pw_below_drewN | apply below_drew1 | refine below_set ?_ GE280.out) | exact HB.out)⟩⟩
  case rest =>
    clear HC2
    try clear c1
    try clear p2
    try clear q2
    try clear hx2
    try clear qi2
    try clear c4
    try clear c4b0
    try clear c4b1
    try clear c5
    try clear c5b0
    try clear c5b1
    try clear c6
    try clear c6b0
    try clear c6b1
    try clear hx281_0
    try clear hx282_0
    try clear p281
    try clear p282
    try clear q281
    try clear q282
    obtain ⟨kq, x30_1, rfl, HA, HJ1, BK280, HB⟩ := hcut
    cases kq with
    | zero => exact absurd HA.out (by simp [aukletref22_Take.j0])
    | succ kj1 =>
      have H := HA.out
      clear HA
      simp only [aukletref22_Take.j0] at H
      by_cases c7 : x30_1 = true
      · subst c7
        have H1 : (some (false, ([] : List ByteArray), ([] : List ByteArray), ([] : List Int), 200)) = some (r1, r2, r3, r4, r5) := by rw [if_pos rfl] at H; exact H
        clear H
        have H := H1
        clear H1
        simp only [Option.some.injEq, Prod.mk.injEq] at H
        obtain ⟨rfl, rfl, rfl, rfl, rfl⟩ := H
        have hcz8_0 : wc.cell? ⟨gb280, 0, none⟩ = some (.bool false) := (blk_cell BK280.out 0).trans rfl
        have hcz8_1 : wc.cell? ⟨gb280, 1, none⟩ = some (.slice none 0 0) := (blk_cell BK280.out 1).trans rfl
        have hcz8_2 : wc.cell? ⟨gb280, 2, none⟩ = some (.slice none 0 0) := (blk_cell BK280.out 2).trans rfl
        have hcz8_3 : wc.cell? ⟨gb280, 3, none⟩ = some (.slice none 0 0) := (blk_cell BK280.out 3).trans rfl
        have hfz8_0 := blk_frozen BK280.out 0
        have hfz8_1 := blk_frozen BK280.out 1
        have hfz8_2 := blk_frozen BK280.out 2
        have hfz8_3 := blk_frozen BK280.out 3
        go_wp2
        refine bodyPost_ret (results_ct rfl _ _ gb280 25 #[.bool false, .slice none 0 0, .slice none 0 0, .slice none 0 0] (0, 0) _ rfl (by (with_reducible repeat (first | refine blk_drewN ?_ _ | refine blk_drew ?_ | refine blk_alloc ?_ _)); refine blk_put (cs := #[.bool false, .slice none 0 0, .slice none 0 0, .slice none 0 0]) ?_ 3 _ rfl; (with_reducible repeat (first | refine blk_drewN ?_ _ | refine blk_drew ?_ | refine blk_alloc ?_ _)); refine blk_put (cs := #[.bool false, .slice none 0 0, .slice none 0 0, .slice none 0 0]) ?_ 2 _ rfl; (with_reducible repeat (first | refine blk_drewN ?_ _ | refine blk_drew ?_ | refine blk_alloc ?_ _)); refine blk_put (cs := #[.bool false, .slice none 0 0, .slice none 0 0, .slice none 0 0]) ?_ 1 _ rfl; (with_reducible repeat (first | refine blk_drewN ?_ _ | refine blk_drew ?_ | refine blk_alloc ?_ _)); refine blk_put (cs := #[.bool false, .slice none 0 0, .slice none 0 0, .slice none 0 0]) ?_ 0 _ rfl; (with_reducible repeat (first | refine blk_drewN ?_ _ | refine blk_drew ?_ | refine blk_alloc ?_ _)); exact BK280.out) Try.underlying25 rfl (by kernel_rfl)) rfl ?_
        exact ⟨_, _, _, by first | rfl | (simp [errW_none, errW_some] <;> rfl) | (simp [*, errW_none, errW_some] <;> rfl), by first | exact Kd.R_nil _ _ _ _ _ | exact Kd.N_nil _ _ _ _ _ | exact Kd.V_nil _ _ _ _ _ | exact Kd.Q_nil _ _ _ _ _ | exact Kd.S_nil _ _ _ _ _, by first | exact Kd.R_nil _ _ _ _ _ | exact Kd.N_nil _ _ _ _ _ | exact Kd.V_nil _ _ _ _ _ | exact Kd.Q_nil _ _ _ _ _ | exact Kd.S_nil _ _ _ _ _, by first | exact Kd.R_nil _ _ _ _ _ | exact Kd.N_nil _ _ _ _ _ | exact Kd.V_nil _ _ _ _ _ | exact Kd.Q_nil _ _ _ _ _ | exact Kd.S_nil _ _ _ _ _, by repeat (first | (with_reducible first | exact HB.out | apply below_alloc | apply pw_below_drewN | apply below_drew1 | refine below_set ?_ GE280.out) | exact HB.out)⟩
      · replace c7 := Bool.eq_false_iff.mpr c7
        subst c7
        have H1 : (if 0 < (l0.length : Int) then (if 1 ≤ 3 then (if 3 ≤ (l0.length : Int) then ((aukletref20_Num.f kj1 ((l0.take 3).drop 1)).bind fun t285 => (if ((rd l0 0) = 1) then (aukletref22_Take.j1 kj1 l0 3 (wrap64 (t285)) ((rd l0 0) == 1) ([] : List Int)) else (if 3 ≤ 7 then (if 7 ≤ (l0.length : Int) then ((aukletref20_Num.f kj1 ((l0.take 7).drop 3)).bind fun t288 => (if ([] : List Int).length < 17592186044416 then (aukletref22_Take.j1 kj1 l0 7 (wrap64 (t285)) ((rd l0 0) == 1) (([] : List Int) ++ [wrap64 (t288)])) else (none))) else (none)) else (none)))) else (none)) else (none)) else (none)) = some (r1, r2, r3, r4, r5) := by rw [if_neg (show ¬ (false = true) by decide)] at H; exact H
        clear H
        have H := H1
        clear H1
        by_cases c9 : 0 < (l0.length : Int)
        · rw [if_pos c9] at H
          have c9b0 : decide (0 < (l0.length : Int)) = true := decide_eq_true c9
          have c9b1 : decide (0 < l0.length) = true := decide_eq_true (by omega)
          clear c9
          by_cases c10 : 1 ≤ 3
          · rw [if_pos c10] at H
            have c10b0 := eq_true c10
            have c10b1 : decide (1 ≤ 3) = true := decide_eq_true c10
            clear c10
            by_cases c11 : 3 ≤ (l0.length : Int)
            · rw [if_pos c11] at H
              have c11b0 := eq_true c11
              have c11b1 : decide (3 ≤ (l0.length : Int)) = true := decide_eq_true c11
              have eTK_ : ((l0.take (3 : Int).toNat).length : Int) = max 3 0 := by rw [List.length_take]; omega
              clear c11
              replace H := Option.bind_eq_some_iff.mp H
              obtain ⟨t285, A120, H⟩ := H
              replace H : (if ((rd l0 0) = 1) then (aukletref22_Take.j1 kj1 l0 3 (wrap64 (t285)) ((rd l0 0) == 1) ([] : List Int)) else (if 3 ≤ 7 then (if 7 ≤ (l0.length : Int) then ((aukletref20_Num.f kj1 ((l0.take 7).drop 3)).bind fun t288 => (if ([] : List Int).length < 17592186044416 then (aukletref22_Take.j1 kj1 l0 7 (wrap64 (t285)) ((rd l0 0) == 1) (([] : List Int) ++ [wrap64 (t288)])) else (none))) else (none)) else (none))) = some (r1, r2, r3, r4, r5) := H
              have A12 := Aside0.mk A120
              clear A120
              have HC13 := Aside0.mk H
              clear H
              try go_wp2
              have n0_ := Aside0.mk (blk_drew BK280.out)
              have n1_ := Aside0.mk (below_drew1 HB.out)
              clear BK280
              clear HB
              have BK280 := n0_
              have HB := n1_
              clear n0_ n1_
              have p283 : 0 ≤ (0 : Int) := (by omega)
              have q283 : 0 < (l0.length : Int) := of_decide_eq_true (by first | (with_reducible assumption) | assumption)
              obtain ⟨ad283, e283, hx283_0⟩ := Kd.at_int HR0.out 0 p283 q283
              have hw283_0 := hx283_0
              (try rw [show ((0 : Int)).toNat = 0 from rfl] at hw283_0)
              (try rw [show 0 * 1 = 0 from rfl] at hw283_0)
              (try rw [Addr.add_zero'] at hw283_0)
              cases e283
              have qi283 : (0 < l0.length) = True := eq_true (by omega)
              (try rw [show ((0 : Int)).toNat = 0 from rfl] at hx283_0)
              (try rw [Addr.add_zero'] at hx283_0)
              replace hx283_0 := (HB.out.cell (World.block_lt_of_cell? w _ hx283_0)).trans hx283_0
              replace p283 := eq_true p283
              replace q283 := eq_true q283
              obtain ⟨i015, hi015, _, hsz15, _⟩ := info_parts info5
              obtain ⟨A15, hcut15, hA15, hC15⟩ := print_mid_of (P := Try.prog) (Value.int .u8) 0 31 5 .i64 .i64 Try.underlying31 hi015 hsz15 (some ad283) c0 l0 1 3 (by omega) (by first | omega | exact of_decide_eq_true (by first | (with_reducible assumption) | assumption)) (of_decide_eq_true (by first | (with_reducible assumption) | assumption)) HC0.out
              have HR284 := Aside0.mk (Kd.C_of_reads (h1 := fun _ => rfl) (hA15 _ (Kd.reads_of_C HR0.out)))
              have HC284 := Aside0.mk hC15
              clear hA15 hC15 hi015 hsz15
              refine start_ (n := 13) (S := fun w' => w'.cell? ad283 = some (.int .u8 (rd l0 0))) (ds := []) #[false, false, false, false, false, false, false, false, false, false, false, false, false] (by kernel_rfl) rfl rfl (((HB.out.cell (World.block_lt_of_cell? w _ hw283_0)).trans hw283_0)) (fun hHeld => ?_); refine with_tabW aukletref22_Take.tab3 aukletref22_Take.bits3 (fun HT_ HW_ => ?_)
              generalize wc.drew = w14 at BK280 HB HR284 hx283_0 hHeld ⊢
              refine pure_ (i := 0) (N := some 32) (v := ?_) (a' := ?_) #[true, false, false, false, false, false, false, false, false, false, false, false, false] rfl rfl (any_of HT_.out (by kernel_rfl)) (fun _ _ _ h => h) (Or.inl ⟨by rfl, ?_⟩) ?_ ?_
              rotate_left
              · intro w'
                go_simp
                with_reducible rfl
              rotate_left
              · simp only [Act.put, List.setIfInBounds_toArray, List.set_cons_zero, List.set_cons_succ, i64_w, i32_w]
                rfl
              refine pure_ (i := 1) (N := some 33) (v := ?_) (a' := ?_) #[true, true, false, false, false, false, false, false, false, false, false, false, false] rfl rfl (any_of HT_.out (by kernel_rfl)) (fun _ _ _ h => h) (Or.inl ⟨by rfl, ?_⟩) ?_ ?_
              rotate_left
              · intro w'
                go_simp
                with_reducible rfl
              rotate_left
              · simp only [Act.put, List.setIfInBounds_toArray, List.set_cons_zero, List.set_cons_succ, i64_w, i32_w]
                rfl
              refine pure_ (i := 5) (N := some 37) (v := ?_) (a' := ?_) #[true, true, false, false, false, true, false, false, false, false, false, false, false] rfl rfl (any_of HT_.out (by kernel_rfl)) (fun _ _ _ h => h) (Or.inl ⟨by rfl, ?_⟩) ?_ ?_
              rotate_left
              · intro w'
                go_simp
                with_reducible rfl
              rotate_left
              · simp only [Act.put, List.setIfInBounds_toArray, List.set_cons_zero, List.set_cons_succ, i64_w, i32_w]
                rfl
              refine pure_ (i := 6) (N := some 38) (v := ?_) (a' := ?_) #[true, true, false, false, false, true, true, false, false, false, false, false, false] rfl rfl (any_of HT_.out (by kernel_rfl)) (fun _ _ _ h => h) (Or.inl ⟨by rfl, ?_⟩) ?_ ?_
              rotate_left
              · intro w'
                go_simp
                with_reducible rfl
              rotate_left
              · simp only [Act.put, List.setIfInBounds_toArray, List.set_cons_zero, List.set_cons_succ, i64_w, i32_w]
                rfl
              refine take_ (i := 2) (N := some 34) (v := ?_) (a' := ?_) #[true, true, true, false, false, true, true, false, false, false, false, false, false] rfl rfl (take_ofW HT_.out HW_.out (by kernel_rfl)) (fun _ _ _ h => h) (Or.inl ⟨by rfl, ?_⟩) hHeld ?_ ?_
              rotate_left
              · intro w' s0
                go_simp
                with_reducible rfl
              rotate_left
              · simp only [Act.put, List.setIfInBounds_toArray, List.set_cons_zero, List.set_cons_succ, i64_w, i32_w]
                rfl
              refine pure_ (i := 3) (N := some 35) (v := ?_) (a' := ?_) #[true, true, true, true, false, true, true, false, false, false, false, false, false] rfl rfl (any_of HT_.out (by kernel_rfl)) (fun _ _ _ h => h) (Or.inl ⟨by rfl, ?_⟩) ?_ ?_
              rotate_left
              · intro w'
                go_simp
                with_reducible rfl
              rotate_left
              · simp only [Act.put, List.setIfInBounds_toArray, List.set_cons_zero, List.set_cons_succ, i64_w, i32_w]
                rfl
              refine pure_ (i := 4) (N := some 36) (v := ?_) (a' := ?_) #[true, true, true, true, true, true, true, false, false, false, false, false, false] rfl rfl (any_of HT_.out (by kernel_rfl)) (fun _ _ _ h => h) (Or.inl ⟨by rfl, ?_⟩) ?_ ?_
              rotate_left
              · intro w'
                go_simp
                with_reducible rfl
              rotate_left
              · simp only [Act.put, List.setIfInBounds_toArray, List.set_cons_zero, List.set_cons_succ, i64_w, i32_w]
                rfl
              refine join_ (σ := Nat) 3 #[true, true, true, true, true, true, true, true, true, true, false, false, false] (fun s_ => [(39, .int .u64 t285), (4, .pointer (some ⟨s_, 0, none⟩)), (40, .int .i64 (wrap64 (t285)))]) (fun s_ w' => (w'.cell? ad283 = some (.int .u8 (rd l0 0))) ∧ (w'.heap[gb280]? = some (.cells #[.bool false, .slice none 0 0, .slice none 0 0, .slice none 0 0] 25 (0, 0))) ∧ (w'.heap[s_]? = some (.cells #[.bool false, .slice none 0 0, .slice none 0 0, .slice none 0 0] 25 (0, 0))) ∧ (w.heap.size ≤ s_) ∧ (w.heap.size ≤ s_) ∧ (gb280 ≠ s_) ∧ (s_ ≠ gb280) ∧ (Below w.heap.size w w')) ?_ ?_
              rotate_left
              · intro hCont
                refine two_ (i := 7) (j := 9) (Ni := some 39) (Nj := some 4) #[true, true, true, true, true, true, true, true, false, false, false, false, false] #[true, true, true, true, true, true, true, false, false, true, false, false, false] rfl rfl rfl rfl (two_of HT_.out (by kernel_rfl)) (by decide) (by decide) (fun K hK => ?_) (fun K hK => ?_)
                · skip
                  refine goes_ Try.func32 (by kernel_rfl) rfl #[.slice A15 ((l0.take 3).drop 1).length (c0 - 1)] (by rfl) rfl rfl (by (try simp only [List.map_toArray, List.map_cons, List.map_nil]); first | done | (rw [show ((l0.take 3).drop 1).length = (3 - 1) from (by rw [List.length_drop, List.length_take]; have h_ : (3 : Int) ≤ (l0.length : Int) := of_decide_eq_true (by first | (with_reducible assumption) | assumption); omega)] <;> rfl) | rfl | (simp only [List.length_drop, List.length_take]; rfl)) ?_
                  with_reducible refine (aukletref20_Num.calls kj1 _ _ ((l0.take 3).drop 1) t285 _ ?side1 ?side2 A12.out).mono ?_
                  (case side1 => repeat (first | exact (Kd.C_below HR284.out HB.out) | (with_reducible refine Kd.C_alloc ?_ _) | (with_reducible refine Kd.C_drewN ?_ _) | (with_reducible refine Kd.C_drew ?_)))
                  (case side2 => exact HC284.out)
                  rintro e w' ⟨rfl, ⟨nd, rfl⟩⟩
                  refine ⟨_, rfl, ?_⟩
                  refine hK.out _ _ (((HB.out.cell (World.block_lt_of_cell? w _ hw283_0)).trans hw283_0)) (fun hHeld => ?_)
                  clear hK K
                  refine norm_ (a' := ?_) ?_ ?_
                  rotate_left
                  · show Act.put _ (some 39) _ = _
                    simp only [Act.put, List.setIfInBounds_toArray, List.set_cons_zero, List.set_cons_succ, i64_w, i32_w]
                    rfl
                  refine pure_ (i := 8) (N := some 40) (v := ?_) (a' := ?_) #[true, true, true, true, true, true, true, true, true, false, false, false, false] rfl rfl (any_of HT_.out (by kernel_rfl)) (fun _ _ _ h => h) (Or.inl ⟨by rfl, ?_⟩) ?_ ?_
                  rotate_left
                  · intro w'
                    go_simp
                    with_reducible rfl
                  rotate_left
                  · simp only [Act.put, List.setIfInBounds_toArray, List.set_cons_zero, List.set_cons_succ, i64_w, i32_w]
                    rfl
                  refine one_ (i := 9) (N := some 4) #[true, true, true, true, true, true, true, true, true, true, false, false, false] rfl rfl (one_of HT_.out (by kernel_rfl)) (by decide) (fun K hK => ?_)
                  refine box_step ?hg (N := 4) ?hd (cs := #[.bool false, .slice none 0 0, .slice none 0 0, .slice none 0 0]) (t := 25) ?hr ?_; (case hd => rfl); (case hg => rfl); (case hr => first | (go_simp; done) | (go_simp; rfl))
                  intro gb286 hg w16 hbox hb
                  have n0_ := Aside0.mk (blk_below (g := gb280) (o := .cells #[.bool false, .slice none 0 0, .slice none 0 0, .slice none 0 0] 25 (0, 0)) (by (with_reducible repeat (first | refine blk_drewN ?_ _ | refine blk_drew ?_ | refine blk_alloc ?_ _)); exact BK280.out) hb)
                  have n1_ := Aside0.mk (below_step (by repeat (first | (with_reducible first | exact HB.out | apply below_alloc | apply pw_below_drewN | apply below_drew1 | refine below_set ?_ GE280.out) | exact HB.out)) hb)
                  have n2_ := Aside0.mk (hbox)
                  have n3_ := Aside0.mk ((by rw [hg]; exact (below_size (by repeat (first | (with_reducible first | exact HB.out | apply below_alloc | apply pw_below_drewN | apply below_drew1 | refine below_set ?_ GE280.out) | exact HB.out))) : w.heap.size ≤ gb286))
                  have n4_ := Aside0.mk ((by rw [hg]; exact (below_size (by repeat (first | (with_reducible first | exact HB.out | apply below_alloc | apply pw_below_drewN | apply below_drew1 | refine below_set ?_ GE280.out) | exact HB.out))) : w.heap.size ≤ gb286))
                  have n5_ := Aside0.mk ((by rw [hg]; exact Nat.ne_of_lt (blk_lt (g := gb280) (o := .cells #[.bool false, .slice none 0 0, .slice none 0 0, .slice none 0 0] 25 (0, 0)) (by (with_reducible repeat (first | refine blk_drewN ?_ _ | refine blk_drew ?_ | refine blk_alloc ?_ _)); exact BK280.out)) : gb280 ≠ gb286))
                  have n6_ := Aside0.mk ((by rw [hg]; exact Nat.ne_of_gt (blk_lt (g := gb280) (o := .cells #[.bool false, .slice none 0 0, .slice none 0 0, .slice none 0 0] 25 (0, 0)) (by (with_reducible repeat (first | refine blk_drewN ?_ _ | refine blk_drew ?_ | refine blk_alloc ?_ _)); exact BK280.out)) : gb286 ≠ gb280))
                  clear BK280
                  clear HB
                  have BK280 := n0_
                  have HB := n1_
                  have BK286 := n2_
                  have GW286 := n3_
                  have GE286 := n4_
                  have NB280_286 := n5_
                  have NB286_280 := n6_
                  clear n0_ n1_ n2_ n3_ n4_ n5_ n6_
                  clear hb hbox hg
                  refine hK.out _ _ (((HB.out.cell (World.block_lt_of_cell? w _ hw283_0)).trans hw283_0)) (fun hHeld => ?_)
                  clear hK K
                  refine norm_ (a' := ?_) ?_ ?_
                  rotate_left
                  · show Act.put _ (some 4) _ = _
                    simp only [Act.put, List.setIfInBounds_toArray, List.set_cons_zero, List.set_cons_succ, i64_w, i32_w]
                    rfl
                  exact norm_ (by simp only [putAll, Act.put, List.setIfInBounds_toArray, List.set_cons_zero, List.set_cons_succ]) (hCont (gb286) _ ⟨hHeld, (by (with_reducible repeat (first | refine blk_drewN ?_ _ | refine blk_drew ?_ | refine blk_alloc ?_ _)); exact BK280.out), (by (with_reducible repeat (first | refine blk_drewN ?_ _ | refine blk_drew ?_ | refine blk_alloc ?_ _)); exact BK286.out), GW286.out, GE286.out, NB280_286.out, NB286_280.out, (by repeat (first | (with_reducible first | exact HB.out | apply below_alloc | apply pw_below_drewN | apply below_drew1 | refine below_set ?_ GE280.out | refine below_set ?_ GE286.out) | exact HB.out))⟩)
                · skip
                  refine box_step ?hg (N := 4) ?hd (cs := #[.bool false, .slice none 0 0, .slice none 0 0, .slice none 0 0]) (t := 25) ?hr ?_; (case hd => rfl); (case hg => rfl); (case hr => first | (go_simp; done) | (go_simp; rfl))
                  intro gb286 hg w16 hbox hb
                  have n0_ := Aside0.mk (blk_below (g := gb280) (o := .cells #[.bool false, .slice none 0 0, .slice none 0 0, .slice none 0 0] 25 (0, 0)) (by (with_reducible repeat (first | refine blk_drewN ?_ _ | refine blk_drew ?_ | refine blk_alloc ?_ _)); exact BK280.out) hb)
                  have n1_ := Aside0.mk (below_step (by repeat (first | (with_reducible first | exact HB.out | apply below_alloc | apply pw_below_drewN | apply below_drew1 | refine below_set ?_ GE280.out) | exact HB.out)) hb)
                  have n2_ := Aside0.mk (hbox)
                  have n3_ := Aside0.mk ((by rw [hg]; exact (below_size (by repeat (first | (with_reducible first | exact HB.out | apply below_alloc | apply pw_below_drewN | apply below_drew1 | refine below_set ?_ GE280.out) | exact HB.out))) : w.heap.size ≤ gb286))
                  have n4_ := Aside0.mk ((by rw [hg]; exact (below_size (by repeat (first | (with_reducible first | exact HB.out | apply below_alloc | apply pw_below_drewN | apply below_drew1 | refine below_set ?_ GE280.out) | exact HB.out))) : w.heap.size ≤ gb286))
                  have n5_ := Aside0.mk ((by rw [hg]; exact Nat.ne_of_lt (blk_lt (g := gb280) (o := .cells #[.bool false, .slice none 0 0, .slice none 0 0, .slice none 0 0] 25 (0, 0)) (by (with_reducible repeat (first | refine blk_drewN ?_ _ | refine blk_drew ?_ | refine blk_alloc ?_ _)); exact BK280.out)) : gb280 ≠ gb286))
                  have n6_ := Aside0.mk ((by rw [hg]; exact Nat.ne_of_gt (blk_lt (g := gb280) (o := .cells #[.bool false, .slice none 0 0, .slice none 0 0, .slice none 0 0] 25 (0, 0)) (by (with_reducible repeat (first | refine blk_drewN ?_ _ | refine blk_drew ?_ | refine blk_alloc ?_ _)); exact BK280.out)) : gb286 ≠ gb280))
                  clear BK280
                  clear HB
                  have BK280 := n0_
                  have HB := n1_
                  have BK286 := n2_
                  have GW286 := n3_
                  have GE286 := n4_
                  have NB280_286 := n5_
                  have NB286_280 := n6_
                  clear n0_ n1_ n2_ n3_ n4_ n5_ n6_
                  clear hb hbox hg
                  refine hK.out _ _ (((HB.out.cell (World.block_lt_of_cell? w _ hw283_0)).trans hw283_0)) (fun hHeld => ?_)
                  clear hK K
                  refine norm_ (a' := ?_) ?_ ?_
                  rotate_left
                  · show Act.put _ (some 4) _ = _
                    simp only [Act.put, List.setIfInBounds_toArray, List.set_cons_zero, List.set_cons_succ, i64_w, i32_w]
                    rfl
                  refine one_ (i := 7) (N := some 39) #[true, true, true, true, true, true, true, true, false, true, false, false, false] rfl rfl (one_of HT_.out (by kernel_rfl)) (by decide) (fun K hK => ?_)
                  refine goes_ Try.func32 (by kernel_rfl) rfl #[.slice A15 ((l0.take 3).drop 1).length (c0 - 1)] (by rfl) rfl rfl (by (try simp only [List.map_toArray, List.map_cons, List.map_nil]); first | done | (rw [show ((l0.take 3).drop 1).length = (3 - 1) from (by rw [List.length_drop, List.length_take]; have h_ : (3 : Int) ≤ (l0.length : Int) := of_decide_eq_true (by first | (with_reducible assumption) | assumption); omega)] <;> rfl) | rfl | (simp only [List.length_drop, List.length_take]; rfl)) ?_
                  with_reducible refine (aukletref20_Num.calls kj1 _ _ ((l0.take 3).drop 1) t285 _ ?side1 ?side2 A12.out).mono ?_
                  (case side1 => repeat (first | exact (Kd.C_below HR284.out HB.out) | (with_reducible refine Kd.C_alloc ?_ _) | (with_reducible refine Kd.C_drewN ?_ _) | (with_reducible refine Kd.C_drew ?_)))
                  (case side2 => exact HC284.out)
                  rintro e w' ⟨rfl, ⟨nd, rfl⟩⟩
                  refine ⟨_, rfl, ?_⟩
                  refine hK.out _ _ (((HB.out.cell (World.block_lt_of_cell? w _ hw283_0)).trans hw283_0)) (fun hHeld => ?_)
                  clear hK K
                  refine norm_ (a' := ?_) ?_ ?_
                  rotate_left
                  · show Act.put _ (some 39) _ = _
                    simp only [Act.put, List.setIfInBounds_toArray, List.set_cons_zero, List.set_cons_succ, i64_w, i32_w]
                    rfl
                  refine pure_ (i := 8) (N := some 40) (v := ?_) (a' := ?_) #[true, true, true, true, true, true, true, true, true, true, false, false, false] rfl rfl (any_of HT_.out (by kernel_rfl)) (fun _ _ _ h => h) (Or.inl ⟨by rfl, ?_⟩) ?_ ?_
                  rotate_left
                  · intro w'
                    go_simp
                    with_reducible rfl
                  rotate_left
                  · simp only [Act.put, List.setIfInBounds_toArray, List.set_cons_zero, List.set_cons_succ, i64_w, i32_w]
                    rfl
                  exact norm_ (by simp only [putAll, Act.put, List.setIfInBounds_toArray, List.set_cons_zero, List.set_cons_succ]) (hCont (gb286) _ ⟨hHeld, (by (with_reducible repeat (first | refine blk_drewN ?_ _ | refine blk_drew ?_ | refine blk_alloc ?_ _)); exact BK280.out), (by (with_reducible repeat (first | refine blk_drewN ?_ _ | refine blk_drew ?_ | refine blk_alloc ?_ _)); exact BK286.out), GW286.out, GE286.out, NB280_286.out, NB286_280.out, (by repeat (first | (with_reducible first | exact HB.out | apply below_alloc | apply pw_below_drewN | apply below_drew1 | refine below_set ?_ GE280.out | refine below_set ?_ GE286.out) | exact HB.out))⟩)
              rintro gb286 w17 ⟨hS_, h0_, h1_, h2_, h3_, h4_, h5_, h6_⟩
              have n0_ : Aside0 (w17.heap[gb280]? = some (.cells #[.bool false, .slice none 0 0, .slice none 0 0, .slice none 0 0] 25 (0, 0))) := ⟨h0_⟩
              have n1_ : Aside0 (w17.heap[gb286]? = some (.cells #[.bool false, .slice none 0 0, .slice none 0 0, .slice none 0 0] 25 (0, 0))) := ⟨h1_⟩
              have n2_ : Aside0 (w.heap.size ≤ gb286) := ⟨h2_⟩
              have n3_ : Aside0 (w.heap.size ≤ gb286) := ⟨h3_⟩
              have n4_ : Aside0 (gb280 ≠ gb286) := ⟨h4_⟩
              have n5_ : Aside0 (gb286 ≠ gb280) := ⟨h5_⟩
              have n6_ : Aside0 (Below w.heap.size w w17) := ⟨h6_⟩
              clear BK280
              clear HB
              clear h0_ h1_ h2_ h3_ h4_ h5_ h6_
              have BK280 := n0_
              have BK286 := n1_
              have GW286 := n2_
              have GE286 := n3_
              have NB280_286 := n4_
              have NB286_280 := n5_
              have HB := n6_
              clear n0_ n1_ n2_ n3_ n4_ n5_ n6_
              have hHeld : w17.cell? ad283 = some (.int .u8 (rd l0 0)) := hS_
              refine norm_ (a' := ?_) ?_ ?_
              rotate_left
              · simp only [putAll, Act.put, List.setIfInBounds_toArray, List.set_cons_zero, List.set_cons_succ]
                rfl
              refine one_ (i := 10) (N := none) #[true, true, true, true, true, true, true, true, true, true, true, false, false] rfl rfl (one_of HT_.out (by kernel_rfl)) (by decide) (fun K hK => ?_)
              have hs18 : w17.cell? ⟨gb286, 0, none⟩ = some (.bool false) := (blk_cell BK286.out 0).trans rfl
              have hfs18 := blk_frozen BK286.out 0
              have hns18_0 := NB280_286.out
              have hms18_0 := NB286_280.out
              have hs19 : w17.cell? ⟨gb286, 1, none⟩ = some (.slice none 0 0) := (blk_cell BK286.out 1).trans rfl
              have hfs19 := blk_frozen BK286.out 1
              have hns19_0 := NB280_286.out
              have hms19_0 := NB286_280.out
              have hs20 : w17.cell? ⟨gb286, 2, none⟩ = some (.slice none 0 0) := (blk_cell BK286.out 2).trans rfl
              have hfs20 := blk_frozen BK286.out 2
              have hns20_0 := NB280_286.out
              have hms20_0 := NB286_280.out
              have hs21 : w17.cell? ⟨gb286, 3, none⟩ = some (.slice none 0 0) := (blk_cell BK286.out 3).trans rfl
              have hfs21 := blk_frozen BK286.out 3
              have hns21_0 := NB280_286.out
              have hms21_0 := NB286_280.out
              refine skip_ (w1 := ?_) (by rfl) rfl ?_ ?_
              rotate_left
              · go_simp
                rfl
              refine hK.out _ _ (((cell_far (p := ⟨gb286, _, none⟩) (by first | exact Nat.ne_of_lt (Nat.lt_of_lt_of_le (by have := World.block_lt_of_cell? _ _ hw283_0; first | rwa [add_block] at this | exact this) GW286.out) | (rw [add_block]; exact Nat.ne_of_lt (Nat.lt_of_lt_of_le (by have := World.block_lt_of_cell? _ _ hw283_0; first | rwa [add_block] at this | exact this) GW286.out)) | (show (Addr.add _ _).block ≠ _; rw [add_block]; exact Nat.ne_of_lt (Nat.lt_of_lt_of_le (by have := World.block_lt_of_cell? _ _ hw283_0; first | rwa [add_block] at this | exact this) GW286.out)) | (dsimp only; exact Nat.ne_of_lt (Nat.lt_of_lt_of_le (by have := World.block_lt_of_cell? _ _ hw283_0; first | rwa [add_block] at this | exact this) GW286.out))) _).trans (((cell_far (p := ⟨gb286, _, none⟩) (by first | exact Nat.ne_of_lt (Nat.lt_of_lt_of_le (by have := World.block_lt_of_cell? _ _ hw283_0; first | rwa [add_block] at this | exact this) GW286.out) | (rw [add_block]; exact Nat.ne_of_lt (Nat.lt_of_lt_of_le (by have := World.block_lt_of_cell? _ _ hw283_0; first | rwa [add_block] at this | exact this) GW286.out)) | (show (Addr.add _ _).block ≠ _; rw [add_block]; exact Nat.ne_of_lt (Nat.lt_of_lt_of_le (by have := World.block_lt_of_cell? _ _ hw283_0; first | rwa [add_block] at this | exact this) GW286.out)) | (dsimp only; exact Nat.ne_of_lt (Nat.lt_of_lt_of_le (by have := World.block_lt_of_cell? _ _ hw283_0; first | rwa [add_block] at this | exact this) GW286.out))) _).trans (((cell_far (p := ⟨gb286, _, none⟩) (by first | exact Nat.ne_of_lt (Nat.lt_of_lt_of_le (by have := World.block_lt_of_cell? _ _ hw283_0; first | rwa [add_block] at this | exact this) GW286.out) | (rw [add_block]; exact Nat.ne_of_lt (Nat.lt_of_lt_of_le (by have := World.block_lt_of_cell? _ _ hw283_0; first | rwa [add_block] at this | exact this) GW286.out)) | (show (Addr.add _ _).block ≠ _; rw [add_block]; exact Nat.ne_of_lt (Nat.lt_of_lt_of_le (by have := World.block_lt_of_cell? _ _ hw283_0; first | rwa [add_block] at this | exact this) GW286.out)) | (dsimp only; exact Nat.ne_of_lt (Nat.lt_of_lt_of_le (by have := World.block_lt_of_cell? _ _ hw283_0; first | rwa [add_block] at this | exact this) GW286.out))) _).trans (((cell_far (p := ⟨gb286, _, none⟩) (by first | exact Nat.ne_of_lt (Nat.lt_of_lt_of_le (by have := World.block_lt_of_cell? _ _ hw283_0; first | rwa [add_block] at this | exact this) GW286.out) | (rw [add_block]; exact Nat.ne_of_lt (Nat.lt_of_lt_of_le (by have := World.block_lt_of_cell? _ _ hw283_0; first | rwa [add_block] at this | exact this) GW286.out)) | (show (Addr.add _ _).block ≠ _; rw [add_block]; exact Nat.ne_of_lt (Nat.lt_of_lt_of_le (by have := World.block_lt_of_cell? _ _ hw283_0; first | rwa [add_block] at this | exact this) GW286.out)) | (dsimp only; exact Nat.ne_of_lt (Nat.lt_of_lt_of_le (by have := World.block_lt_of_cell? _ _ hw283_0; first | rwa [add_block] at this | exact this) GW286.out))) _).trans (hHeld))))))))) (fun hHeld => ?_)
              clear hK K
              refine pure_ (i := 11) (N := some 5) (v := ?_) (a' := ?_) #[true, true, true, true, true, true, true, true, true, true, true, true, false] rfl rfl (any_of HT_.out (by kernel_rfl)) (fun _ _ _ h => h) (Or.inl ⟨by rfl, ?_⟩) ?_ ?_
              rotate_left
              · intro w'
                go_simp
                with_reducible rfl
              rotate_left
              · simp only [Act.put, List.setIfInBounds_toArray, List.set_cons_zero, List.set_cons_succ, i64_w, i32_w]
                rfl
              refine pure_ (i := 12) (N := some 6) (v := ?_) (a' := ?_) #[true, true, true, true, true, true, true, true, true, true, true, true, true] rfl rfl (any_of HT_.out (by kernel_rfl)) (fun _ _ _ h => h) (Or.inl ⟨by rfl, ?_⟩) ?_ ?_
              rotate_left
              · intro w'
                go_simp
                with_reducible rfl
              rotate_left
              · simp only [Act.put, List.setIfInBounds_toArray, List.set_cons_zero, List.set_cons_succ, i64_w, i32_w]
                rfl
              refine done_ (done_of HT_.out (by kernel_rfl)) ?_
              have hnb22 := NB286_280.out
              have hnc22 := NB280_286.out
              have hcz23_0 : w17.cell? ⟨gb286, 0, none⟩ = some (.bool false) := (blk_cell BK286.out 0).trans rfl
              have hcz23_1 : w17.cell? ⟨gb286, 1, none⟩ = some (.slice none 0 0) := (blk_cell BK286.out 1).trans rfl
              have hcz23_2 : w17.cell? ⟨gb286, 2, none⟩ = some (.slice none 0 0) := (blk_cell BK286.out 2).trans rfl
              have hcz23_3 : w17.cell? ⟨gb286, 3, none⟩ = some (.slice none 0 0) := (blk_cell BK286.out 3).trans rfl
              have hfz23_0 := blk_frozen BK286.out 0
              have hfz23_1 := blk_frozen BK286.out 1
              have hfz23_2 := blk_frozen BK286.out 2
              have hfz23_3 := blk_frozen BK286.out 3
              go_upto_if 43 with (fail)
              go_cut [5] (fun v5 wc => ∃ (kq : Nat) (x5_12 : Int) (x287003_12 : List Int) (u287003 : Value), v5 = .int .i64 x5_12 ∧ Aside0 (aukletref22_Take.j1 kq l0 x5_12 (wrap64 (t285)) ((rd l0 0) == 1) x287003_12 = some (r1, r2, r3, r4, r5)) ∧ Aside0 (kq ≤ kj1) ∧ Aside0 (Kd.R (Kd.int .i64) 3 wc w.heap.size (fun _ => True) u287003 x287003_12) ∧ Aside0 (wc.heap[gb280]? = some (.cells #[.bool false, (.slice none 0 0), (.slice none 0 0), (.slice none 0 0)] 25 (0, 0))) ∧ Aside0 (wc.heap[gb286]? = some (.cells #[.bool ((rd l0 0) == 1), (.slice none 0 0), (.slice none 0 0), u287003] 25 (0, 0))) ∧ Aside0 (Below w.heap.size w wc))
              case first =>
                have H := HC13.out
                clear HC13
                by_cases c24 : ((rd l0 0) = 1)
                · rw [if_pos c24] at H
                  have c24b0 : ((rd l0 0) == 1) = true := beq_iff_eq.mpr c24
                  have c24b1 : ((rd l0 0) != 1) = false := bne_eq_false_iff_eq.mpr c24
                  clear c24
                  (first | rw [c24b0] | (simp only [i64_w, i32_w]; rw [c24b0]) | skip)
                  rw [c24b0] at H
                  have H' := Aside0.mk H
                  clear H
                  go_wp2
                  go_meet
                  case rel => (try rw [c24b0]); exact ⟨_, (3), (([] : List Int)), (.slice none 0 0), (by first | rfl | (simp; done) | (simp [*]; done)), H', ⟨by have := HJ1.out; first | omega | exact Nat.le_refl _⟩, ⟨by first | exact Kd.R_nil _ _ _ _ _ | exact Kd.N_nil _ _ _ _ _ | exact Kd.V_nil _ _ _ _ _ | exact Kd.Q_nil _ _ _ _ _ | exact Kd.S_nil _ _ _ _ _⟩, ⟨by (with_reducible repeat (first | refine blk_drewN ?_ _ | refine blk_drew ?_ | refine blk_alloc ?_ _)); refine blk_far ?_ NB280_286.out _; (with_reducible repeat (first | refine blk_drewN ?_ _ | refine blk_drew ?_ | refine blk_alloc ?_ _)); refine blk_far ?_ NB280_286.out _; (with_reducible repeat (first | refine blk_drewN ?_ _ | refine blk_drew ?_ | refine blk_alloc ?_ _)); refine blk_far ?_ NB280_286.out _; (with_reducible repeat (first | refine blk_drewN ?_ _ | refine blk_drew ?_ | refine blk_alloc ?_ _)); refine blk_far ?_ NB280_286.out _; (with_reducible repeat (first | refine blk_drewN ?_ _ | refine blk_drew ?_ | refine blk_alloc ?_ _)); exact BK280.out⟩, ⟨by (with_reducible repeat (first | refine blk_drewN ?_ _ | refine blk_drew ?_ | refine blk_alloc ?_ _)); refine blk_put (cs := #[.bool true, .slice none 0 0, .slice none 0 0, .slice none 0 0]) ?_ 3 _ rfl; (with_reducible repeat (first | refine blk_drewN ?_ _ | refine blk_drew ?_ | refine blk_alloc ?_ _)); refine blk_put (cs := #[.bool true, .slice none 0 0, .slice none 0 0, .slice none 0 0]) ?_ 2 _ rfl; (with_reducible repeat (first | refine blk_drewN ?_ _ | refine blk_drew ?_ | refine blk_alloc ?_ _)); refine blk_put (cs := #[.bool true, .slice none 0 0, .slice none 0 0, .slice none 0 0]) ?_ 1 _ rfl; (with_reducible repeat (first | refine blk_drewN ?_ _ | refine blk_drew ?_ | refine blk_alloc ?_ _)); refine blk_put (cs := #[.bool false, .slice none 0 0, .slice none 0 0, .slice none 0 0]) ?_ 0 _ rfl; (with_reducible repeat (first | refine blk_drewN ?_ _ | refine blk_drew ?_ | refine blk_alloc ?_ _)); exact BK286.out⟩, ⟨by repeat (first | (with_reducible first | exact HB.out | apply below_alloc | apply pw_below_drewN | apply below_drew1 | refine below_set ?_ GE280.out | refine below_set ?_ GE286.out) | exact HB.out)⟩⟩
                · rw [if_neg c24] at H
                  have c24b0 : ((rd l0 0) == 1) = false := beq_eq_false_iff_ne.mpr c24
                  have c24b1 : ((rd l0 0) != 1) = true := bne_iff_ne.mpr c24
                  (first | rw [c24b0] | (simp only [i64_w, i32_w]; rw [c24b0]) | skip)
                  rw [c24b0] at H
                  by_cases c25 : 3 ≤ 7
                  · rw [if_pos c25] at H
                    have c25b0 := eq_true c25
                    have c25b1 : decide (3 ≤ 7) = true := decide_eq_true c25
                    clear c25
                    by_cases c26 : 7 ≤ (l0.length : Int)
                    · rw [if_pos c26] at H
                      have c26b0 := eq_true c26
                      have c26b1 : decide (7 ≤ (l0.length : Int)) = true := decide_eq_true c26
                      have eTK_ : ((l0.take (7 : Int).toNat).length : Int) = max 7 0 := by rw [List.length_take]; omega
                      clear c26
                      replace H := Option.bind_eq_some_iff.mp H
                      obtain ⟨t288, A270, H⟩ := H
                      replace H : (if ([] : List Int).length < 17592186044416 then (aukletref22_Take.j1 kj1 l0 7 (wrap64 (t285)) false (([] : List Int) ++ [wrap64 (t288)])) else (none)) = some (r1, r2, r3, r4, r5) := H
                      have A27 := Aside0.mk A270
                      clear A270
                      by_cases c28 : ([] : List Int).length < 17592186044416
                      · rw [if_pos c28] at H
                        have LMc28 := Aside0.mk c28
                        clear c28
                        obtain ⟨y289, hy289⟩ : ∃ y_ : List Int, y_ = (([] : List Int) ++ [wrap64 (t288)]) := ⟨_, rfl⟩
                        replace H : (aukletref22_Take.j1 kj1 l0 7 (wrap64 (t285)) false y289) = some (r1, r2, r3, r4, r5) := by first | (rw [hy289]; with_reducible exact H) | (have H2_ := (Option.bind_some _ _).symm.trans H; rw [hy289]; with_reducible exact H2_) | (have H2_ := (Option.bind_some _ _).symm.trans H; with_reducible exact H2_) | with_reducible exact H | (rw [hy289]; exact H) | exact H
                        have Ny289 := Aside0.mk hy289
                        clear hy289
                        have H' := Aside0.mk H
                        clear H
                        try go_wp2
                        have n0_ : Aside0 (((((w17.setCell ⟨gb286, 0, none⟩ (.bool false)).setCell ⟨gb286, 1, none⟩ (.slice none 0 0)).setCell ⟨gb286, 2, none⟩ (.slice none 0 0)).setCell ⟨gb286, 3, none⟩ (.slice none 0 0)).heap[gb280]? = some (.cells #[.bool false, .slice none 0 0, .slice none 0 0, .slice none 0 0] 25 (0, 0))) := ⟨by (with_reducible repeat (first | refine blk_drewN ?_ _ | refine blk_drew ?_ | refine blk_alloc ?_ _)); refine blk_far ?_ NB280_286.out _; (with_reducible repeat (first | refine blk_drewN ?_ _ | refine blk_drew ?_ | refine blk_alloc ?_ _)); refine blk_far ?_ NB280_286.out _; (with_reducible repeat (first | refine blk_drewN ?_ _ | refine blk_drew ?_ | refine blk_alloc ?_ _)); refine blk_far ?_ NB280_286.out _; (with_reducible repeat (first | refine blk_drewN ?_ _ | refine blk_drew ?_ | refine blk_alloc ?_ _)); refine blk_far ?_ NB280_286.out _; (with_reducible repeat (first | refine blk_drewN ?_ _ | refine blk_drew ?_ | refine blk_alloc ?_ _)); exact BK280.out⟩
                        have n1_ : Aside0 (((((w17.setCell ⟨gb286, 0, none⟩ (.bool false)).setCell ⟨gb286, 1, none⟩ (.slice none 0 0)).setCell ⟨gb286, 2, none⟩ (.slice none 0 0)).setCell ⟨gb286, 3, none⟩ (.slice none 0 0)).heap[gb286]? = some (.cells #[.bool false, .slice none 0 0, .slice none 0 0, .slice none 0 0] 25 (0, 0))) := ⟨by (with_reducible repeat (first | refine blk_drewN ?_ _ | refine blk_drew ?_ | refine blk_alloc ?_ _)); refine blk_put (cs := #[.bool false, .slice none 0 0, .slice none 0 0, .slice none 0 0]) ?_ 3 _ rfl; (with_reducible repeat (first | refine blk_drewN ?_ _ | refine blk_drew ?_ | refine blk_alloc ?_ _)); refine blk_put (cs := #[.bool false, .slice none 0 0, .slice none 0 0, .slice none 0 0]) ?_ 2 _ rfl; (with_reducible repeat (first | refine blk_drewN ?_ _ | refine blk_drew ?_ | refine blk_alloc ?_ _)); refine blk_put (cs := #[.bool false, .slice none 0 0, .slice none 0 0, .slice none 0 0]) ?_ 1 _ rfl; (with_reducible repeat (first | refine blk_drewN ?_ _ | refine blk_drew ?_ | refine blk_alloc ?_ _)); refine blk_put (cs := #[.bool false, .slice none 0 0, .slice none 0 0, .slice none 0 0]) ?_ 0 _ rfl; (with_reducible repeat (first | refine blk_drewN ?_ _ | refine blk_drew ?_ | refine blk_alloc ?_ _)); exact BK286.out⟩
                        have n2_ : Aside0 (Below w.heap.size w ((((w17.setCell ⟨gb286, 0, none⟩ (.bool false)).setCell ⟨gb286, 1, none⟩ (.slice none 0 0)).setCell ⟨gb286, 2, none⟩ (.slice none 0 0)).setCell ⟨gb286, 3, none⟩ (.slice none 0 0))) := ⟨by repeat (first | (with_reducible first | exact HB.out | apply below_alloc | apply pw_below_drewN | apply below_drew1 | refine below_set ?_ GE280.out | refine below_set ?_ GE286.out) | exact HB.out)⟩
                        (try clear BK280)
                        (try clear BK286)
                        (try clear HB)
                        generalize ((((w17.setCell ⟨gb286, 0, none⟩ (.bool false)).setCell ⟨gb286, 1, none⟩ (.slice none 0 0)).setCell ⟨gb286, 2, none⟩ (.slice none 0 0)).setCell ⟨gb286, 3, none⟩ (.slice none 0 0)) = w29 at n0_ n1_ n2_ ⊢
                        have BK280 := n0_
                        have BK286 := n1_
                        have HB := n2_
                        clear n0_ n1_ n2_
                        have n0_ := Aside0.mk (blk_drew BK280.out)
                        have n1_ := Aside0.mk (blk_drew BK286.out)
                        have n2_ := Aside0.mk (below_drew1 HB.out)
                        clear BK280
                        clear BK286
                        clear HB
                        have BK280 := n0_
                        have BK286 := n1_
                        have HB := n2_
                        clear n0_ n1_ n2_
                        obtain ⟨i031, hi031, _, hsz31, _⟩ := info_parts info5
                        obtain ⟨A31, hcut31, hA31, hC31⟩ := print_mid_of (P := Try.prog) (Value.int .u8) 0 31 5 .i64 .i64 Try.underlying31 hi031 hsz31 (some ad283) c0 l0 3 7 (by omega) (by first | omega | exact of_decide_eq_true (by first | (with_reducible assumption) | assumption)) (of_decide_eq_true (by first | (with_reducible assumption) | assumption)) HC0.out
                        have HR287 := Aside0.mk (Kd.C_of_reads (h1 := fun _ => rfl) (hA31 _ (Kd.reads_of_C HR0.out)))
                        have HC287 := Aside0.mk hC31
                        clear hA31 hC31 hi031 hsz31
                        refine start_ (n := 11) (S := fun w' => w'.cell? ⟨gb286, 0, none⟩ = some (.bool false) ∧ w'.cell? ⟨gb286, 1, none⟩ = some (.slice none 0 0) ∧ w'.cell? ⟨gb286, 2, none⟩ = some (.slice none 0 0) ∧ w'.cell? ⟨gb286, 3, none⟩ = some (.slice none 0 0)) (ds := [9]) #[false, false, false, false, false, false, false, false, false, false, false] (by kernel_rfl) rfl rfl ⟨(blk_cell BK286.out 0).trans rfl, (blk_cell BK286.out 1).trans rfl, (blk_cell BK286.out 2).trans rfl, (blk_cell BK286.out 3).trans rfl⟩ (fun hHeld => ?_); refine with_tabW aukletref22_Take.tab5 aukletref22_Take.bits5 (fun HT_ HW_ => ?_)
                        generalize w29.drew = w30 at BK280 BK286 HB HR287 hHeld ⊢
                        refine pure_ (i := 0) (N := some 44) (v := ?_) (a' := ?_) #[true, false, false, false, false, false, false, false, false, false, false] rfl rfl (any_of HT_.out (by kernel_rfl)) (fun _ _ _ h => h) (Or.inl ⟨by rfl, ?_⟩) ?_ ?_
                        rotate_left
                        · intro w'
                          go_simp
                          with_reducible rfl
                        rotate_left
                        · simp only [Act.put, List.setIfInBounds_toArray, List.set_cons_zero, List.set_cons_succ, i64_w, i32_w]
                          rfl
                        refine pure_ (i := 2) (N := some 46) (v := ?_) (a' := ?_) #[true, false, true, false, false, false, false, false, false, false, false] rfl rfl (any_of HT_.out (by kernel_rfl)) (fun _ _ _ h => h) (Or.inl ⟨by rfl, ?_⟩) ?_ ?_
                        rotate_left
                        · intro w'
                          go_simp
                          with_reducible rfl
                        rotate_left
                        · simp only [Act.put, List.setIfInBounds_toArray, List.set_cons_zero, List.set_cons_succ, i64_w, i32_w]
                          rfl
                        refine pure_ (i := 3) (N := some 47) (v := ?_) (a' := ?_) #[true, false, true, true, false, false, false, false, false, false, false] rfl rfl (any_of HT_.out (by kernel_rfl)) (fun _ _ _ h => h) (Or.inl ⟨by rfl, ?_⟩) ?_ ?_
                        rotate_left
                        · intro w'
                          go_simp
                          with_reducible rfl
                        rotate_left
                        · simp only [Act.put, List.setIfInBounds_toArray, List.set_cons_zero, List.set_cons_succ, i64_w, i32_w]
                          rfl
                        refine take_ (i := 1) (N := some 45) (v := ?_) (a' := ?_) #[true, true, true, true, false, false, false, false, false, false, false] rfl rfl (take_ofW HT_.out HW_.out (by kernel_rfl)) (fun _ _ _ h => h) (Or.inl ⟨by rfl, ?_⟩) hHeld ?_ ?_
                        rotate_left
                        · rintro w' ⟨s0, s1, s2, s3⟩
                          go_simp
                          with_reducible rfl
                        rotate_left
                        · simp only [Act.put, List.setIfInBounds_toArray, List.set_cons_zero, List.set_cons_succ, i64_w, i32_w]
                          rfl
                        refine one_ (i := 4) (N := some 48) #[true, true, true, true, true, false, false, false, false, false, false] rfl rfl (one_of HT_.out (by kernel_rfl)) (by decide) (fun K hK => ?_)
                        refine goes_ Try.func32 (by kernel_rfl) rfl #[.slice A31 ((l0.take 7).drop 3).length (c0 - 3)] (by rfl) rfl rfl (by (try simp only [List.map_toArray, List.map_cons, List.map_nil]); first | done | (rw [show ((l0.take 7).drop 3).length = (7 - 3) from (by rw [List.length_drop, List.length_take]; have h_ : (7 : Int) ≤ (l0.length : Int) := of_decide_eq_true (by first | (with_reducible assumption) | assumption); omega)] <;> rfl) | rfl | (simp only [List.length_drop, List.length_take]; rfl)) ?_
                        with_reducible refine (aukletref20_Num.calls kj1 _ _ ((l0.take 7).drop 3) t288 _ ?side1 ?side2 A27.out).mono ?_
                        (case side1 => repeat (first | exact (Kd.C_below HR287.out HB.out) | (with_reducible refine Kd.C_alloc ?_ _) | (with_reducible refine Kd.C_drewN ?_ _) | (with_reducible refine Kd.C_drew ?_)))
                        (case side2 => exact HC287.out)
                        rintro e w' ⟨rfl, ⟨nd, rfl⟩⟩
                        refine ⟨_, rfl, ?_⟩
                        refine hK.out _ _ ⟨(blk_cell BK286.out 0).trans rfl, (blk_cell BK286.out 1).trans rfl, (blk_cell BK286.out 2).trans rfl, (blk_cell BK286.out 3).trans rfl⟩ (fun hHeld => ?_)
                        clear hK K
                        refine norm_ (a' := ?_) ?_ ?_
                        rotate_left
                        · show Act.put _ (some 48) _ = _
                          simp only [Act.put, List.setIfInBounds_toArray, List.set_cons_zero, List.set_cons_succ, i64_w, i32_w]
                          rfl
                        refine pure_ (i := 5) (N := some 49) (v := ?_) (a' := ?_) #[true, true, true, true, true, true, false, false, false, false, false] rfl rfl (any_of HT_.out (by kernel_rfl)) (fun _ _ _ h => h) (Or.inl ⟨by rfl, ?_⟩) ?_ ?_
                        rotate_left
                        · intro w'
                          go_simp
                          with_reducible rfl
                        rotate_left
                        · simp only [Act.put, List.setIfInBounds_toArray, List.set_cons_zero, List.set_cons_succ, i64_w, i32_w]
                          rfl
                        refine one_ (i := 6) (N := some 50) #[true, true, true, true, true, true, true, false, false, false, false] rfl rfl (one_of HT_.out (by kernel_rfl)) (by decide) (fun K hK => ?_)
                        refine value_ (w1 := ?_) (v := ?_) (by rfl) rfl ?_ ?_
                        rotate_left 2
                        · go_simp
                          constructor
                          · rfl
                          · rfl
                        refine hK.out _ _ ⟨(blk_cell (blk_alloc BK286.out _) 0).trans rfl, (blk_cell (blk_alloc BK286.out _) 1).trans rfl, (blk_cell (blk_alloc BK286.out _) 2).trans rfl, (blk_cell (blk_alloc BK286.out _) 3).trans rfl⟩ (fun hHeld => ?_)
                        clear hK K
                        refine norm_ (a' := ?_) ?_ ?_
                        rotate_left
                        · show Act.put _ (some 50) _ = _
                          simp only [Act.put, List.setIfInBounds_toArray, List.set_cons_zero, List.set_cons_succ, i64_w, i32_w]
                          rfl
                        refine one_ (i := 7) (N := some 51) #[true, true, true, true, true, true, true, true, false, false, false] rfl rfl (one_of HT_.out (by kernel_rfl)) (by decide) (fun K hK => ?_)
                        refine Kd.R_append_step (Kd.int .i64) (w0 := w) w.heap.size (by rfl) (.tmp 45) (.tmp 50) 23 3 (.int .i64 0) 8 rfl Try.underlying23 info3 rfl (by decide) (by omega) (.slice none 0 0) ([] : List Int) (wrap64 (t288)) [.int .i64 (wrap64 (t288))] (fun _ => True) (fun _ => False) rfl rfl ?aP (fun _ hk => hk.elim) ?aF ?aO ?aB ?aS ?aL ?_
                        (case aP => exact rfl)
                        (case aB => exact (by repeat (first | (with_reducible first | exact HB.out | apply below_alloc | apply pw_below_drewN | apply below_drew1 | refine below_set ?_ GE280.out | refine below_set ?_ GE286.out) | exact HB.out)))
                        (case aF => exact (fun _ _ => trivial))
                        (case aO => exact ((Kd.R_nil _ _ _ _ (fun _ => True))))
                        (case aS => exact (below_size (by repeat (first | (with_reducible first | exact HB.out | apply below_alloc | apply pw_below_drewN | apply below_drew1 | refine below_set ?_ GE280.out | refine below_set ?_ GE286.out) | exact HB.out))))
                        (case aL => have := LMc28.out; omega)
                        intro v290 w32 ho hb hg hat
                        rw [← Ny289.out] at ho
                        have n0_ := Aside0.mk (blk_grown (g := gb280) (o := .cells #[.bool false, .slice none 0 0, .slice none 0 0, .slice none 0 0] 25 (0, 0)) (by (with_reducible repeat (first | refine blk_drewN ?_ _ | refine blk_drew ?_ | refine blk_alloc ?_ _)); exact BK280.out) hg (by simp [Value.ownBlock]))
                        have n1_ := Aside0.mk (blk_grown (g := gb286) (o := .cells #[.bool false, .slice none 0 0, .slice none 0 0, .slice none 0 0] 25 (0, 0)) (by (with_reducible repeat (first | refine blk_drewN ?_ _ | refine blk_drew ?_ | refine blk_alloc ?_ _)); exact BK286.out) hg (by simp [Value.ownBlock]))
                        have n2_ := Aside0.mk (hb)
                        have n3_ := Aside0.mk (ho)
                        clear BK280
                        clear BK286
                        clear HB
                        have BK280 := n0_
                        have BK286 := n1_
                        have HB := n2_
                        have HO291 := n3_
                        clear n0_ n1_ n2_ n3_
                        clear ho hb hg hat
                        obtain ⟨Ao33, co33, eo33⟩ := Kd.R_slice HO291.out
                        (first | subst eo33 | (injection eo33 with f1_ f2_ f3_; have f4_ := f1_.symm; have f5_ := f3_.symm; clear f1_ f2_ f3_; subst f4_; subst f5_))
                        refine hK.out _ _ ⟨(blk_cell BK286.out 0).trans rfl, (blk_cell BK286.out 1).trans rfl, (blk_cell BK286.out 2).trans rfl, (blk_cell BK286.out 3).trans rfl⟩ (fun hHeld => ?_)
                        clear hK K
                        refine norm_ (a' := ?_) ?_ ?_
                        rotate_left
                        · show Act.put _ (some 51) _ = _
                          simp only [Act.put, List.setIfInBounds_toArray, List.set_cons_zero, List.set_cons_succ, i64_w, i32_w]
                          rfl
                        refine pure_ (i := 8) (N := some 52) (v := ?_) (a' := ?_) #[true, true, true, true, true, true, true, true, true, false, false] rfl rfl (any_of HT_.out (by kernel_rfl)) (fun _ _ _ h => h) (Or.inl ⟨by rfl, ?_⟩) ?_ ?_
                        rotate_left
                        · intro w'
                          go_simp
                          with_reducible rfl
                        rotate_left
                        · simp only [Act.put, List.setIfInBounds_toArray, List.set_cons_zero, List.set_cons_succ, i64_w, i32_w]
                          rfl
                        refine last_ (i := 9) (N := none) #[true, true, true, true, true, true, true, true, true, true, false] rfl rfl (one_of HT_.out (by kernel_rfl)) (by decide) (fun K hK => ?_)
                        have hs34 : w32.cell? ⟨gb286, 3, none⟩ = some (.slice none 0 0) := (blk_cell BK286.out 3).trans rfl
                        have hfs34 := blk_frozen BK286.out 3
                        have hns34_0 := NB280_286.out
                        have hms34_0 := NB286_280.out
                        refine skip_ (w1 := ?_) (by rfl) rfl ?_ ?_
                        rotate_left
                        · go_simp
                          rfl
                        refine hK.out _ _ ?_
                        clear hK K
                        refine pure_ (i := 10) (N := some 5) (v := ?_) (a' := ?_) #[true, true, true, true, true, true, true, true, true, true, true] rfl rfl (any_of HT_.out (by kernel_rfl)) (fun _ _ _ h => h) (Or.inl ⟨by rfl, ?_⟩) ?_ ?_
                        rotate_left
                        · intro w'
                          go_simp
                          with_reducible rfl
                        rotate_left
                        · simp only [Act.put, List.setIfInBounds_toArray, List.set_cons_zero, List.set_cons_succ, i64_w, i32_w]
                          rfl
                        refine done_ (done_of HT_.out (by kernel_rfl)) ?_
                        try go_wp2
                        go_meet
                        case rel => (try rw [c24b0]); exact ⟨_, (7), (y289), (.slice Ao33 y289.length co33), (by first | rfl | (simp; done) | (simp [*]; done)), H', ⟨by have := HJ1.out; first | omega | exact Nat.le_refl _⟩, ⟨by (with_reducible repeat (first | apply Kd.R_alloc | apply Kd.R_drewN | apply Kd.R_drew)); exact Kd.R_mono (Kd.R_far (p := ⟨gb286, 3, none⟩) (Kd.R_types HO291.out BK286.out (by decide)) (fun _ hk => hk.2) (.slice Ao33 y289.length co33)) (fun _ hk => trivial)⟩, ⟨by (with_reducible repeat (first | refine blk_drewN ?_ _ | refine blk_drew ?_ | refine blk_alloc ?_ _)); refine blk_far ?_ NB280_286.out _; (with_reducible repeat (first | refine blk_drewN ?_ _ | refine blk_drew ?_ | refine blk_alloc ?_ _)); exact BK280.out⟩, ⟨by (with_reducible repeat (first | refine blk_drewN ?_ _ | refine blk_drew ?_ | refine blk_alloc ?_ _)); refine blk_put (cs := #[.bool false, .slice none 0 0, .slice none 0 0, .slice none 0 0]) ?_ 3 _ rfl; (with_reducible repeat (first | refine blk_drewN ?_ _ | refine blk_drew ?_ | refine blk_alloc ?_ _)); exact BK286.out⟩, ⟨by repeat (first | (with_reducible first | exact HB.out | apply below_alloc | apply pw_below_drewN | apply below_drew1 | refine below_set ?_ GE280.out | refine below_set ?_ GE286.out) | exact HB.out)⟩⟩
                      · rw [if_neg c28] at H
                        exact absurd H (by simp)
                    · rw [if_neg c26] at H
                      exact absurd H (by simp)
                  · rw [if_neg c25] at H
                    exact absurd H (by simp)
              case rest =>
                clear HC13
                try clear c1
                try clear c2
                try clear p2
                try clear q2
                try clear hx2
                try clear qi2
                try clear c3
                try clear c4
                try clear c4b0
                try clear c4b1
                try clear c5
                try clear c5b0
                try clear c5b1
                try clear c6
                try clear c6b0
                try clear c6b1
                try clear p6
                try clear c7
                try clear c9
                try clear c9b0
                try clear c9b1
                try clear c10
                try clear c10b0
                try clear c10b1
                try clear c11
                try clear c11b0
                try clear c11b1
                try clear c22
                try clear c24
                try clear c24b0
                try clear c24b1
                try clear c25
                try clear c25b0
                try clear c25b1
                try clear c26
                try clear c26b0
                try clear c26b1
                try clear c28
                try clear p28
                try clear q28
                try clear hx28
                try clear qi28
                try clear c32
                try clear hcz23_0
                try clear hcz23_1
                try clear hcz23_2
                try clear hcz23_3
                try clear hcz8_0
                try clear hcz8_1
                try clear hcz8_2
                try clear hcz8_3
                try clear hfz23_0
                try clear hfz23_1
                try clear hfz23_2
                try clear hfz23_3
                try clear hfz8_0
                try clear hfz8_1
                try clear hfz8_2
                try clear hfz8_3
                try clear hx281_0
                try clear hx282_0
                try clear hx283_0
                try clear p2
                try clear p281
                try clear p282
                try clear p283
                try clear q2
                try clear q281
                try clear q282
                try clear q283
                obtain ⟨kq, x5_12, x287003_12, u287003, rfl, HA, HJ12, HO_287003, BK280, BK286, HB⟩ := hcut
                cases kq with
                | zero => exact absurd HA.out (by simp [aukletref22_Take.j1])
                | succ kj12 =>
                  have H := HA.out
                  clear HA
                  simp only [aukletref22_Take.j1] at H
                  have H' := Aside0.mk H
                  clear H
                  go_wp2
                  go_loopg [5, 7] kj12 (fun kq v5 v7 w' => ∃ (x5_3 : Int) (x7_3 : Int) (x281000_3 : Bool) (x287001_3 : List ByteArray) (x287002_3 : List ByteArray) (x287003_3 : List Int) (u287001 : Value) (u287002 : Value) (u287003 : Value), v5 = .int .i64 x5_3 ∧ v7 = .int .i64 x7_3 ∧ Aside0 (aukletref22_Take.l0 kq l0 x5_3 (wrap64 (t285)) x7_3 ((rd l0 0) == 1) x287001_3 x287002_3 x287003_3 = some (r1, r2, r3, r4, r5)) ∧ Aside0 (kq ≤ kj12) ∧ Aside0 (Kd.R Kd.string 9 w' w.heap.size (fun k_ => some k_ ≠ (u287002 : Value).ownBlock) u287001 x287001_3) ∧ Aside0 (Kd.R Kd.string 9 w' w.heap.size (fun k_ => some k_ ≠ (u287001 : Value).ownBlock) u287002 x287002_3) ∧ Aside0 (Kd.R (Kd.int .i64) 3 w' w.heap.size (fun _ => True) u287003 x287003_3) ∧ Aside0 (w'.heap[gb280]? = some (.cells #[.bool x281000_3, (.slice none 0 0), (.slice none 0 0), (.slice none 0 0)] 25 (0, 0))) ∧ Aside0 (w'.heap[gb286]? = some (.cells #[.bool ((rd l0 0) == 1), u287001, u287002, u287003] 25 (0, 0))) ∧ Aside0 (Below w.heap.size w w'))
                  case atStart => exact ⟨(x5_12), (0), (false), (([] : List ByteArray)), (([] : List ByteArray)), (x287003_12), (.slice none 0 0), (.slice none 0 0), (u287003), (by first | rfl | (simp; done) | (simp [*]; done)), (by first | rfl | (simp; done) | (simp [*]; done)), H', ⟨Nat.le_refl _⟩, ⟨by first | exact Kd.R_nil _ _ _ _ _ | exact Kd.N_nil _ _ _ _ _ | exact Kd.V_nil _ _ _ _ _ | exact Kd.Q_nil _ _ _ _ _ | exact Kd.S_nil _ _ _ _ _⟩, ⟨by first | exact Kd.R_nil _ _ _ _ _ | exact Kd.N_nil _ _ _ _ _ | exact Kd.V_nil _ _ _ _ _ | exact Kd.Q_nil _ _ _ _ _ | exact Kd.S_nil _ _ _ _ _⟩, ⟨by (with_reducible repeat (first | apply Kd.R_alloc | apply Kd.R_drewN | apply Kd.R_drew)); exact HO_287003.out⟩, ⟨by (with_reducible repeat (first | refine blk_drewN ?_ _ | refine blk_drew ?_ | refine blk_alloc ?_ _)); exact BK280.out⟩, ⟨by (with_reducible repeat (first | refine blk_drewN ?_ _ | refine blk_drew ?_ | refine blk_alloc ?_ _)); exact BK286.out⟩, ⟨by repeat (first | (with_reducible first | exact HB.out | apply below_alloc | apply pw_below_drewN | apply below_drew1 | refine below_set ?_ GE280.out | refine below_set ?_ GE286.out) | exact HB.out)⟩⟩
                  case round =>
                    clear H'
                    try clear c1
                    try clear c2
                    try clear p2
                    try clear q2
                    try clear hx2
                    try clear qi2
                    try clear c3
                    try clear c4
                    try clear c4b0
                    try clear c4b1
                    try clear c5
                    try clear c5b0
                    try clear c5b1
                    try clear c6
                    try clear c6b0
                    try clear c6b1
                    try clear p6
                    try clear c7
                    try clear c9
                    try clear c9b0
                    try clear c9b1
                    try clear c10
                    try clear c10b0
                    try clear c10b1
                    try clear c11
                    try clear c11b0
                    try clear c11b1
                    try clear c22
                    try clear c24
                    try clear c24b0
                    try clear c24b1
                    try clear c25
                    try clear c25b0
                    try clear c25b1
                    try clear c26
                    try clear c26b0
                    try clear c26b1
                    try clear c28
                    try clear p28
                    try clear q28
                    try clear hx28
                    try clear qi28
                    try clear c32
                    try clear hcz23_0
                    try clear hcz23_1
                    try clear hcz23_2
                    try clear hcz23_3
                    try clear hcz8_0
                    try clear hcz8_1
                    try clear hcz8_2
                    try clear hcz8_3
                    try clear hfz23_0
                    try clear hfz23_1
                    try clear hfz23_2
                    try clear hfz23_3
                    try clear hfz8_0
                    try clear hfz8_1
                    try clear hfz8_2
                    try clear hfz8_3
                    try clear hx281_0
                    try clear hx282_0
                    try clear hx283_0
                    try clear p2
                    try clear p28
                    try clear p281
                    try clear p282
                    try clear p283
                    try clear p6
                    try clear q2
                    try clear q28
                    try clear q281
                    try clear q282
                    try clear q283
                    obtain ⟨x5_3, x7_3, x281000_3, x287001_3, x287002_3, x287003_3, u287001, u287002, u287003, rfl, rfl, HA, HK3, HO_287001, HO_287002, HO_287003, BK280, BK286, HB⟩ := hrel
                    cases gk with
                    | zero => exact absurd HA.out (by simp [aukletref22_Take.l0])
                    | succ k3 =>
                      have H := HA.out
                      clear HA
                      simp only [aukletref22_Take.l0] at H
                      by_cases c35 : x7_3 < (wrap64 (t285))
                      · rw [if_pos c35] at H
                        have c35b0 : decide (x7_3 < (wrap64 (t285))) = true := decide_eq_true c35
                        clear c35
                        replace H := Option.bind_eq_some_iff.mp H
                        obtain ⟨⟨t296, t297, t298⟩, A360, H⟩ := H
                        replace H : (if t298 = true then (if x287001_3.length < 8796093022208 then ((some (x287001_3 ++ [t296] : List ByteArray)).bind fun y299 => (if ((rd l0 0) == 1) = true then ((aukletref22_text1.f l0 t297).bind fun bt302 => (if bt302.2.2 = true then (if x287002_3.length < 8796093022208 then (aukletref22_Take.l0 k3 l0 bt302.2.1 (wrap64 (t285)) (wrap64 (x7_3 + 1)) ((rd l0 0) == 1) y299 (x287002_3 ++ [bt302.1]) x287003_3) else (none)) else (some (false, ([] : List ByteArray), ([] : List ByteArray), ([] : List Int), 200)))) else (if (wrap64 (t297 + 4)) > 512 then (some (false, ([] : List ByteArray), ([] : List ByteArray), ([] : List Int), 200)) else (if 0 ≤ t297 then (if t297 ≤ (wrap64 (t297 + 4)) then (if (wrap64 (t297 + 4)) ≤ (l0.length : Int) then ((aukletref20_Num.f k3 ((l0.take ((wrap64 (t297 + 4)) : Int).toNat).drop (t297 : Int).toNat)).bind fun t309 => (if x287003_3.length < 17592186044416 then (aukletref22_Take.l0 k3 l0 (wrap64 (t297 + 4)) (wrap64 (t285)) (wrap64 (x7_3 + 1)) ((rd l0 0) == 1) y299 x287002_3 (x287003_3 ++ [wrap64 (t309)])) else (none))) else (none)) else (none)) else (none))))) else (none)) else (some (false, ([] : List ByteArray), ([] : List ByteArray), ([] : List Int), 200))) = some (r1, r2, r3, r4, r5) := H
                        have A36 := Aside0.mk A360
                        clear A360
                        by_cases c37 : t298 = true
                        · subst c37
                          have H1 : (if x287001_3.length < 8796093022208 then ((some (x287001_3 ++ [t296] : List ByteArray)).bind fun y299 => (if ((rd l0 0) == 1) = true then ((aukletref22_text1.f l0 t297).bind fun bt302 => (if bt302.2.2 = true then (if x287002_3.length < 8796093022208 then (aukletref22_Take.l0 k3 l0 bt302.2.1 (wrap64 (t285)) (wrap64 (x7_3 + 1)) ((rd l0 0) == 1) y299 (x287002_3 ++ [bt302.1]) x287003_3) else (none)) else (some (false, ([] : List ByteArray), ([] : List ByteArray), ([] : List Int), 200)))) else (if (wrap64 (t297 + 4)) > 512 then (some (false, ([] : List ByteArray), ([] : List ByteArray), ([] : List Int), 200)) else (if 0 ≤ t297 then (if t297 ≤ (wrap64 (t297 + 4)) then (if (wrap64 (t297 + 4)) ≤ (l0.length : Int) then ((aukletref20_Num.f k3 ((l0.take ((wrap64 (t297 + 4)) : Int).toNat).drop (t297 : Int).toNat)).bind fun t309 => (if x287003_3.length < 17592186044416 then (aukletref22_Take.l0 k3 l0 (wrap64 (t297 + 4)) (wrap64 (t285)) (wrap64 (x7_3 + 1)) ((rd l0 0) == 1) y299 x287002_3 (x287003_3 ++ [wrap64 (t309)])) else (none))) else (none)) else (none)) else (none))))) else (none)) = some (r1, r2, r3, r4, r5) := by rw [if_pos rfl] at H; exact H
                          clear H
                          have H := H1
                          clear H1
                          by_cases c38 : x287001_3.length < 8796093022208
                          · rw [if_pos c38] at H
                            have LMc38 := Aside0.mk c38
                            clear c38
                            obtain ⟨y299, hy299⟩ : ∃ y_ : List ByteArray, y_ = (x287001_3 ++ [t296]) := ⟨_, rfl⟩
                            replace H : (if ((rd l0 0) == 1) = true then ((aukletref22_text1.f l0 t297).bind fun bt302 => (if bt302.2.2 = true then (if x287002_3.length < 8796093022208 then (aukletref22_Take.l0 k3 l0 bt302.2.1 (wrap64 (t285)) (wrap64 (x7_3 + 1)) ((rd l0 0) == 1) y299 (x287002_3 ++ [bt302.1]) x287003_3) else (none)) else (some (false, ([] : List ByteArray), ([] : List ByteArray), ([] : List Int), 200)))) else (if (wrap64 (t297 + 4)) > 512 then (some (false, ([] : List ByteArray), ([] : List ByteArray), ([] : List Int), 200)) else (if 0 ≤ t297 then (if t297 ≤ (wrap64 (t297 + 4)) then (if (wrap64 (t297 + 4)) ≤ (l0.length : Int) then ((aukletref20_Num.f k3 ((l0.take ((wrap64 (t297 + 4)) : Int).toNat).drop (t297 : Int).toNat)).bind fun t309 => (if x287003_3.length < 17592186044416 then (aukletref22_Take.l0 k3 l0 (wrap64 (t297 + 4)) (wrap64 (t285)) (wrap64 (x7_3 + 1)) ((rd l0 0) == 1) y299 x287002_3 (x287003_3 ++ [wrap64 (t309)])) else (none))) else (none)) else (none)) else (none)))) = some (r1, r2, r3, r4, r5) := by first | (rw [hy299]; with_reducible exact H) | (have H2_ := (Option.bind_some _ _).symm.trans H; rw [hy299]; with_reducible exact H2_) | (have H2_ := (Option.bind_some _ _).symm.trans H; with_reducible exact H2_) | with_reducible exact H | (rw [hy299]; exact H) | exact H
                            have Ny299 := Aside0.mk hy299
                            clear hy299
                            by_cases c39 : ((rd l0 0) == 1) = true
                            · rw [if_pos c39] at H
                              have c39b0 : ((rd l0 0) == 1) = true := c39
                              (try (have c39b1 : decide ((rd l0 0) = 1) = true := by simpa using c39))
                              (try (have c39b2 : ((rd l0 0) == 1) = true := by simpa using c39))
                              clear c39
                              replace H := Option.bind_eq_some_iff.mp H
                              obtain ⟨⟨t302, t303, t304⟩, A400, H⟩ := H
                              replace H : (if t304 = true then (if x287002_3.length < 8796093022208 then (aukletref22_Take.l0 k3 l0 t303 (wrap64 (t285)) (wrap64 (x7_3 + 1)) ((rd l0 0) == 1) y299 (x287002_3 ++ [t302]) x287003_3) else (none)) else (some (false, ([] : List ByteArray), ([] : List ByteArray), ([] : List Int), 200))) = some (r1, r2, r3, r4, r5) := H
                              have A40 := Aside0.mk A400
                              clear A400
                              by_cases c41 : t304 = true
                              · subst c41
                                have H1 : (if x287002_3.length < 8796093022208 then (aukletref22_Take.l0 k3 l0 t303 (wrap64 (t285)) (wrap64 (x7_3 + 1)) ((rd l0 0) == 1) y299 (x287002_3 ++ [t302]) x287003_3) else (none)) = some (r1, r2, r3, r4, r5) := by rw [if_pos rfl] at H; exact H
                                clear H
                                have H := H1
                                clear H1
                                by_cases c42 : x287002_3.length < 8796093022208
                                · rw [if_pos c42] at H
                                  have LMc42 := Aside0.mk c42
                                  clear c42
                                  obtain ⟨y305, hy305⟩ : ∃ y_ : List ByteArray, y_ = (x287002_3 ++ [t302]) := ⟨_, rfl⟩
                                  replace H : (aukletref22_Take.l0 k3 l0 t303 (wrap64 (t285)) (wrap64 (x7_3 + 1)) ((rd l0 0) == 1) y299 y305 x287003_3) = some (r1, r2, r3, r4, r5) := by first | (rw [hy305]; with_reducible exact H) | (have H2_ := (Option.bind_some _ _).symm.trans H; rw [hy305]; with_reducible exact H2_) | (have H2_ := (Option.bind_some _ _).symm.trans H; with_reducible exact H2_) | with_reducible exact H | (rw [hy305]; exact H) | exact H
                                  have Ny305 := Aside0.mk hy305
                                  clear hy305
                                  have H' := Aside0.mk H
                                  clear H
                                  go_wp2_with (first | ((with_reducible refine gate_callee (f := 33) rfl ?_); refine goesL_ (some 61) rfl rfl Try.func33 (by kernel_rfl) rfl #[.slice (some ad283) l0.length c0, .int .i64 x5_3] rfl (by (try simp only [List.map_toArray, List.map_cons, List.map_nil]); first | done | rfl | (simp only [List.length_drop, List.length_take]; rfl)) ?_; (with_reducible refine (aukletref22_text1.calls _ _ l0 x5_3 t296 t297 true _ ?side1 ?side2 A36.out).mono ?_); (case side1 => repeat (first | exact (Kd.C_below HR0.out HB.out) | (with_reducible refine Kd.C_alloc ?_ _) | (with_reducible refine Kd.C_drewN ?_ _) | (with_reducible refine Kd.C_drew ?_))); (case side2 => exact HC0.out); rintro e w' ⟨rfl, ⟨nd, rfl⟩⟩; refine ⟨_, rfl, ?_⟩; (try (rw [drewN_self wr]; generalize hq_ : World.drewN wr _ = wr; have n0_ : Aside0 (Kd.R Kd.string 9 wr w.heap.size (fun k_ => some k_ ≠ (u287002 : Value).ownBlock) u287001 x287001_3) := ⟨by rw [← hq_]; exact (by (with_reducible repeat (first | apply Kd.R_alloc | apply Kd.R_drewN | apply Kd.R_drew)); exact HO_287001.out)⟩; have n1_ : Aside0 (Kd.R Kd.string 9 wr w.heap.size (fun k_ => some k_ ≠ (u287001 : Value).ownBlock) u287002 x287002_3) := ⟨by rw [← hq_]; exact (by (with_reducible repeat (first | apply Kd.R_alloc | apply Kd.R_drewN | apply Kd.R_drew)); exact HO_287002.out)⟩; have n2_ : Aside0 (Kd.R (Kd.int .i64) 3 wr w.heap.size (fun _ => True) u287003 x287003_3) := ⟨by rw [← hq_]; exact (by (with_reducible repeat (first | apply Kd.R_alloc | apply Kd.R_drewN | apply Kd.R_drew)); exact HO_287003.out)⟩; have n3_ : Aside0 (wr.heap[gb280]? = some (.cells #[.bool x281000_3, .slice none 0 0, .slice none 0 0, .slice none 0 0] 25 (0, 0))) := ⟨by rw [← hq_]; exact (by (with_reducible repeat (first | refine blk_drewN ?_ _ | refine blk_drew ?_ | refine blk_alloc ?_ _)); exact BK280.out)⟩; have n4_ : Aside0 (wr.heap[gb286]? = some (.cells #[.bool ((rd l0 0) == 1), u287001, u287002, u287003] 25 (0, 0))) := ⟨by rw [← hq_]; exact (by (with_reducible repeat (first | refine blk_drewN ?_ _ | refine blk_drew ?_ | refine blk_alloc ?_ _)); exact BK286.out)⟩; have n5_ : Aside0 (Below w.heap.size w wr) := ⟨by rw [← hq_]; exact (by repeat (first | (with_reducible first | exact HB.out | apply below_alloc | apply pw_below_drewN | apply below_drew1 | refine below_set ?_ GE280.out | refine below_set ?_ GE286.out) | exact HB.out))⟩; clear HO_287001 HO_287002 HO_287003 BK280 BK286 HB hq_; have HO_287001 := n0_; have HO_287002 := n1_; have HO_287003 := n2_; have BK280 := n3_; have BK286 := n4_; have HB := n5_; clear n0_ n1_ n2_ n3_ n4_ n5_)); have hnb43 := NB286_280.out; have hnc43 := NB280_286.out; have hcz44_0 : wr.cell? ⟨gb286, 0, none⟩ = some (.bool ((rd l0 0) == 1)) := (blk_cell BK286.out 0).trans rfl; have hcz44_1 : wr.cell? ⟨gb286, 1, none⟩ = some (u287001) := (blk_cell BK286.out 1).trans rfl; have hcz44_2 : wr.cell? ⟨gb286, 2, none⟩ = some (u287002) := (blk_cell BK286.out 2).trans rfl; have hcz44_3 : wr.cell? ⟨gb286, 3, none⟩ = some (u287003) := (blk_cell BK286.out 3).trans rfl; have hfz44_0 := blk_frozen BK286.out 0; have hfz44_1 := blk_frozen BK286.out 1; have hfz44_2 := blk_frozen BK286.out 2; have hfz44_3 := blk_frozen BK286.out 3) | ((with_reducible refine gate_builtin (b := .append) (xs := #[.tmp 69, .tmp 71]) rfl ?_); at_builtin; refine Kd.R_append Kd.string (w0 := w) w.heap.size rfl (.tmp 69) (.tmp 71) 22 9 (.string ⟨#[]⟩) 16 rfl Try.underlying22 info9 rfl (by decide) (by omega) u287001 x287001_3 t296 [.string t296] (fun k_ => some k_ ≠ (u287002 : Value).ownBlock) (fun _ => False) rfl rfl ?aP (fun _ hk => hk.elim) ?aF ?aO ?aB ?aS ?aL ?_; (case aP => exact rfl); (case aB => exact (by repeat (first | (with_reducible first | exact HB.out | apply below_alloc | apply pw_below_drewN | apply below_drew1 | refine below_set ?_ GE280.out | refine below_set ?_ GE286.out) | exact HB.out))); (case aF => exact (fun k_ hk => Kd.fresh' (Kd.R_lt (by (with_reducible repeat (first | apply Kd.R_alloc | apply Kd.R_drewN | apply Kd.R_drew)); exact HO_287002.out)) k_ hk)); (case aO => exact (by (with_reducible repeat (first | apply Kd.R_alloc | apply Kd.R_drewN | apply Kd.R_drew)); exact HO_287001.out)); (case aS => exact (below_size (by repeat (first | (with_reducible first | exact HB.out | apply below_alloc | apply pw_below_drewN | apply below_drew1 | refine below_set ?_ GE280.out | refine below_set ?_ GE286.out) | exact HB.out)))); (case aL => have := LMc38.out; omega); intro v300 w45 ho hb hg hat; rw [← Ny299.out] at ho; have n0_ := Aside0.mk (Kd.R_after (ok := (fun _ => True)) (by (with_reducible repeat (first | apply Kd.R_alloc | apply Kd.R_drewN | apply Kd.R_drew)); exact Kd.R_mono HO_287002.out (fun _ hk => ⟨trivial, hk⟩)) hg hat); have n1_ := Aside0.mk (Kd.R_over' (by (with_reducible repeat (first | apply Kd.R_alloc | apply Kd.R_drewN | apply Kd.R_drew)); exact HO_287003.out) (Kd.R_typed (by (with_reducible repeat (first | apply Kd.R_alloc | apply Kd.R_drewN | apply Kd.R_drew)); exact HO_287001.out)) (by decide) hg); have n2_ := Aside0.mk (blk_grown (g := gb280) (o := .cells #[.bool x281000_3, .slice none 0 0, .slice none 0 0, .slice none 0 0] 25 (0, 0)) (by (with_reducible repeat (first | refine blk_drewN ?_ _ | refine blk_drew ?_ | refine blk_alloc ?_ _)); exact BK280.out) hg (Kd.R_ne HO_287001.out BK280.out (by decide))); have n3_ := Aside0.mk (blk_grown (g := gb286) (o := .cells #[.bool ((rd l0 0) == 1), u287001, u287002, u287003] 25 (0, 0)) (by (with_reducible repeat (first | refine blk_drewN ?_ _ | refine blk_drew ?_ | refine blk_alloc ?_ _)); exact BK286.out) hg (Kd.R_ne HO_287001.out BK286.out (by decide))); have n4_ := Aside0.mk (hb); have n5_ := Aside0.mk (ho); clear HO_287002; clear HO_287003; clear BK280; clear BK286; clear HB; clear HO_287001; have HO_287002 := n0_; have HO_287003 := n1_; have BK280 := n2_; have BK286 := n3_; have HB := n4_; have HO301 := n5_; clear n0_ n1_ n2_ n3_ n4_ n5_; clear ho hb hg hat; obtain ⟨Ao46, co46, eo46⟩ := Kd.R_slice HO301.out; subst eo46; have hcz47_0 : w45.cell? ⟨gb286, 0, none⟩ = some (.bool ((rd l0 0) == 1)) := (blk_cell BK286.out 0).trans rfl; have hcz47_1 : w45.cell? ⟨gb286, 1, none⟩ = some (u287001) := (blk_cell BK286.out 1).trans rfl; have hcz47_2 : w45.cell? ⟨gb286, 2, none⟩ = some (u287002) := (blk_cell BK286.out 2).trans rfl; have hcz47_3 : w45.cell? ⟨gb286, 3, none⟩ = some (u287003) := (blk_cell BK286.out 3).trans rfl; have hfz47_0 := blk_frozen BK286.out 0; have hfz47_1 := blk_frozen BK286.out 1; have hfz47_2 := blk_frozen BK286.out 2; have hfz47_3 := blk_frozen BK286.out 3) | ((with_reducible refine gate_callee (f := 33) rfl ?_); refine goesL_ (some 79) rfl rfl Try.func33 (by kernel_rfl) rfl #[.slice (some ad283) l0.length c0, .int .i64 t297] rfl (by (try simp only [List.map_toArray, List.map_cons, List.map_nil]); first | done | rfl | (simp only [List.length_drop, List.length_take]; rfl)) ?_; (with_reducible refine (aukletref22_text1.calls _ _ l0 t297 t302 t303 true _ ?side1 ?side2 A40.out).mono ?_); (case side1 => exact Kd.C_below HR0.out (by repeat (first | (with_reducible first | exact HB.out | apply below_alloc | apply pw_below_drewN | apply below_drew1 | refine below_set ?_ GE280.out | refine below_set ?_ GE286.out) | exact HB.out))); (case side2 => exact HC0.out); rintro e w' ⟨rfl, ⟨nd, rfl⟩⟩; refine ⟨_, rfl, ?_⟩) | ((with_reducible refine gate_builtin (b := .append) (xs := #[.tmp 87, .tmp 89]) rfl ?_); at_builtin; refine Kd.R_append Kd.string (w0 := w) w.heap.size rfl (.tmp 87) (.tmp 89) 22 9 (.string ⟨#[]⟩) 16 rfl Try.underlying22 info9 rfl (by decide) (by omega) u287002 x287002_3 t302 [.string t302] (fun k_ => some k_ ≠ (.slice Ao46 y299.length co46 : Value).ownBlock) (fun _ => False) rfl (by first | (go_simp; done) | (go_simp; rfl)) ?aP (fun _ hk => hk.elim) ?aF ?aO ?aB ?aS ?aL ?_; (case aP => exact rfl); (case aB => exact (by repeat (first | (with_reducible first | exact HB.out | apply below_alloc | apply pw_below_drewN | apply below_drew1 | refine below_set ?_ GE280.out | refine below_set ?_ GE286.out) | exact HB.out))); (case aF => exact (fun k_ hk => Kd.fresh' (Kd.R_lt (by (with_reducible repeat (first | apply Kd.R_alloc | apply Kd.R_drewN | apply Kd.R_drew)); exact (Kd.R_mono (Kd.R_far (p := ⟨gb286, 1, none⟩) (Kd.R_types HO301.out BK286.out (by decide)) (fun _ hk => hk.2) (.slice Ao46 y299.length co46)) (fun _ h_ => h_.1)))) k_ hk)); (case aO => exact (by (with_reducible repeat (first | apply Kd.R_alloc | apply Kd.R_drewN | apply Kd.R_drew)); exact Kd.R_mono (Kd.R_far (p := ⟨gb286, 1, none⟩) (Kd.R_types HO_287002.out BK286.out (by decide)) (fun _ hk => hk.2) (.slice Ao46 y299.length co46)) (fun _ hk => hk.1.2))); (case aS => exact (below_size (by repeat (first | (with_reducible first | exact HB.out | apply below_alloc | apply pw_below_drewN | apply below_drew1 | refine below_set ?_ GE280.out | refine below_set ?_ GE286.out) | exact HB.out)))); (case aL => have := LMc42.out; omega); intro v306 w48 ho hb hg hat; rw [← Ny305.out] at ho; have n0_ := Aside0.mk (Kd.R_over' (by (with_reducible repeat (first | apply Kd.R_alloc | apply Kd.R_drewN | apply Kd.R_drew)); exact (Kd.R_mono (Kd.R_far (p := ⟨gb286, 1, none⟩) (Kd.R_types HO_287003.out BK286.out (by decide)) (fun _ hk => hk.2) (.slice Ao46 y299.length co46)) (fun _ h_ => h_.1))) (Kd.R_typed (by (with_reducible repeat (first | apply Kd.R_alloc | apply Kd.R_drewN | apply Kd.R_drew)); exact (Kd.R_mono (Kd.R_far (p := ⟨gb286, 1, none⟩) (Kd.R_types HO_287002.out BK286.out (by decide)) (fun _ hk => hk.2) (.slice Ao46 y299.length co46)) (fun _ h_ => h_.1)))) (by decide) hg); have n1_ := Aside0.mk (blk_grown (g := gb280) (o := .cells #[.bool x281000_3, .slice none 0 0, .slice none 0 0, .slice none 0 0] 25 (0, 0)) (by (with_reducible repeat (first | refine blk_drewN ?_ _ | refine blk_drew ?_ | refine blk_alloc ?_ _)); refine blk_far ?_ NB280_286.out _; (with_reducible repeat (first | refine blk_drewN ?_ _ | refine blk_drew ?_ | refine blk_alloc ?_ _)); exact BK280.out) hg (Kd.R_ne HO_287002.out BK280.out (by decide))); have n2_ := Aside0.mk (blk_grown (g := gb286) (o := .cells #[.bool ((rd l0 0) == 1), .slice Ao46 y299.length co46, u287002, u287003] 25 (0, 0)) (by (with_reducible repeat (first | refine blk_drewN ?_ _ | refine blk_drew ?_ | refine blk_alloc ?_ _)); refine blk_put (cs := #[.bool ((rd l0 0) == 1), u287001, u287002, u287003]) ?_ 1 _ rfl; (with_reducible repeat (first | refine blk_drewN ?_ _ | refine blk_drew ?_ | refine blk_alloc ?_ _)); exact BK286.out) hg (Kd.R_ne HO_287002.out BK286.out (by decide))); have n3_ := Aside0.mk (Kd.R_after (ok := (fun _ => True)) (by (with_reducible repeat (first | apply Kd.R_alloc | apply Kd.R_drewN | apply Kd.R_drew)); exact Kd.R_mono (Kd.R_far (p := ⟨gb286, 1, none⟩) (Kd.R_types HO301.out BK286.out (by decide)) (fun _ hk => hk.2) (.slice Ao46 y299.length co46)) (fun _ hk => ⟨trivial, hk.1⟩)) hg hat); have n4_ := Aside0.mk (hb); have n5_ := Aside0.mk (ho); clear HO_287003; clear BK280; clear BK286; clear HO301; clear HB; clear HO_287002; have HO_287003 := n0_; have BK280 := n1_; have BK286 := n2_; have HO301 := n3_; have HB := n4_; have HO307 := n5_; clear n0_ n1_ n2_ n3_ n4_ n5_; clear ho hb hg hat; obtain ⟨Ao49, co49, eo49⟩ := Kd.R_slice HO307.out; subst eo49; have hcz50_0 : w48.cell? ⟨gb286, 0, none⟩ = some (.bool ((rd l0 0) == 1)) := (blk_cell BK286.out 0).trans rfl; have hcz50_1 : w48.cell? ⟨gb286, 1, none⟩ = some (.slice Ao46 y299.length co46) := (blk_cell BK286.out 1).trans rfl; have hcz50_2 : w48.cell? ⟨gb286, 2, none⟩ = some (u287002) := (blk_cell BK286.out 2).trans rfl; have hcz50_3 : w48.cell? ⟨gb286, 3, none⟩ = some (u287003) := (blk_cell BK286.out 3).trans rfl; have hfz50_0 := blk_frozen BK286.out 0; have hfz50_1 := blk_frozen BK286.out 1; have hfz50_2 := blk_frozen BK286.out 2; have hfz50_3 := blk_frozen BK286.out 3))
                                  go_roundg k3
                                  case measure => have := HJ1.out; have := HJ12.out; have := HK3.out; omega
                                  case rel => exact ⟨(t303), (wrap64 (x7_3 + 1)), (x281000_3), (y299), (y305), (x287003_3), (.slice Ao46 y299.length co46), (.slice Ao49 y305.length co49), (u287003), (by first | rfl | (simp; done) | (simp [*]; done)), (by first | rfl | (simp; done) | (simp [*]; done)), H', ⟨by have := HJ1.out; have := HJ12.out; have := HK3.out; omega⟩, ⟨by (with_reducible repeat (first | apply Kd.R_alloc | apply Kd.R_drewN | apply Kd.R_drew)); exact Kd.R_mono (Kd.R_far (p := ⟨gb286, 2, none⟩) (Kd.R_types HO301.out BK286.out (by decide)) (fun _ hk => hk.2) (.slice Ao49 y305.length co49)) (fun _ hk => hk.1.2)⟩, ⟨by (with_reducible repeat (first | apply Kd.R_alloc | apply Kd.R_drewN | apply Kd.R_drew)); exact Kd.R_mono (Kd.R_far (p := ⟨gb286, 2, none⟩) (Kd.R_types HO307.out BK286.out (by decide)) (fun _ hk => hk.2) (.slice Ao49 y305.length co49)) (fun _ hk => hk.1)⟩, ⟨by (with_reducible repeat (first | apply Kd.R_alloc | apply Kd.R_drewN | apply Kd.R_drew)); exact Kd.R_mono (Kd.R_far (p := ⟨gb286, 2, none⟩) (Kd.R_types HO_287003.out BK286.out (by decide)) (fun _ hk => hk.2) (.slice Ao49 y305.length co49)) (fun _ hk => trivial)⟩, ⟨by (with_reducible repeat (first | refine blk_drewN ?_ _ | refine blk_drew ?_ | refine blk_alloc ?_ _)); refine blk_far ?_ NB280_286.out _; (with_reducible repeat (first | refine blk_drewN ?_ _ | refine blk_drew ?_ | refine blk_alloc ?_ _)); exact BK280.out⟩, ⟨by (with_reducible repeat (first | refine blk_drewN ?_ _ | refine blk_drew ?_ | refine blk_alloc ?_ _)); refine blk_put (cs := #[.bool ((rd l0 0) == 1), .slice Ao46 y299.length co46, u287002, u287003]) ?_ 2 _ rfl; (with_reducible repeat (first | refine blk_drewN ?_ _ | refine blk_drew ?_ | refine blk_alloc ?_ _)); exact BK286.out⟩, ⟨by repeat (first | (with_reducible first | exact HB.out | apply below_alloc | apply pw_below_drewN | apply below_drew1 | refine below_set ?_ GE280.out | refine below_set ?_ GE286.out) | exact HB.out)⟩⟩
                                · rw [if_neg c42] at H
                                  exact absurd H (by simp)
                              · replace c41 := Bool.eq_false_iff.mpr c41
                                subst c41
                                have H1 : (some (false, ([] : List ByteArray), ([] : List ByteArray), ([] : List Int), 200)) = some (r1, r2, r3, r4, r5) := by rw [if_neg (show ¬ (false = true) by decide)] at H; exact H
                                clear H
                                have H := H1
                                clear H1
                                simp only [Option.some.injEq, Prod.mk.injEq] at H
                                obtain ⟨rfl, rfl, rfl, rfl, rfl⟩ := H
                                go_wp2_with (first | ((with_reducible refine gate_callee (f := 33) rfl ?_); refine goesL_ (some 61) rfl rfl Try.func33 (by kernel_rfl) rfl #[.slice (some ad283) l0.length c0, .int .i64 x5_3] rfl (by (try simp only [List.map_toArray, List.map_cons, List.map_nil]); first | done | rfl | (simp only [List.length_drop, List.length_take]; rfl)) ?_; (with_reducible refine (aukletref22_text1.calls _ _ l0 x5_3 t296 t297 true _ ?side1 ?side2 A36.out).mono ?_); (case side1 => repeat (first | exact (Kd.C_below HR0.out HB.out) | (with_reducible refine Kd.C_alloc ?_ _) | (with_reducible refine Kd.C_drewN ?_ _) | (with_reducible refine Kd.C_drew ?_))); (case side2 => exact HC0.out); rintro e w' ⟨rfl, ⟨nd, rfl⟩⟩; refine ⟨_, rfl, ?_⟩; (try (rw [drewN_self wr]; generalize hq_ : World.drewN wr _ = wr; have n0_ : Aside0 (Kd.R Kd.string 9 wr w.heap.size (fun k_ => some k_ ≠ (u287002 : Value).ownBlock) u287001 x287001_3) := ⟨by rw [← hq_]; exact (by (with_reducible repeat (first | apply Kd.R_alloc | apply Kd.R_drewN | apply Kd.R_drew)); exact HO_287001.out)⟩; have n1_ : Aside0 (Kd.R Kd.string 9 wr w.heap.size (fun k_ => some k_ ≠ (u287001 : Value).ownBlock) u287002 x287002_3) := ⟨by rw [← hq_]; exact (by (with_reducible repeat (first | apply Kd.R_alloc | apply Kd.R_drewN | apply Kd.R_drew)); exact HO_287002.out)⟩; have n2_ : Aside0 (Kd.R (Kd.int .i64) 3 wr w.heap.size (fun _ => True) u287003 x287003_3) := ⟨by rw [← hq_]; exact (by (with_reducible repeat (first | apply Kd.R_alloc | apply Kd.R_drewN | apply Kd.R_drew)); exact HO_287003.out)⟩; have n3_ : Aside0 (wr.heap[gb280]? = some (.cells #[.bool x281000_3, .slice none 0 0, .slice none 0 0, .slice none 0 0] 25 (0, 0))) := ⟨by rw [← hq_]; exact (by (with_reducible repeat (first | refine blk_drewN ?_ _ | refine blk_drew ?_ | refine blk_alloc ?_ _)); exact BK280.out)⟩; have n4_ : Aside0 (wr.heap[gb286]? = some (.cells #[.bool ((rd l0 0) == 1), u287001, u287002, u287003] 25 (0, 0))) := ⟨by rw [← hq_]; exact (by (with_reducible repeat (first | refine blk_drewN ?_ _ | refine blk_drew ?_ | refine blk_alloc ?_ _)); exact BK286.out)⟩; have n5_ : Aside0 (Below w.heap.size w wr) := ⟨by rw [← hq_]; exact (by repeat (first | (with_reducible first | exact HB.out | apply below_alloc | apply pw_below_drewN | apply below_drew1 | refine below_set ?_ GE280.out | refine below_set ?_ GE286.out) | exact HB.out))⟩; clear HO_287001 HO_287002 HO_287003 BK280 BK286 HB hq_; have HO_287001 := n0_; have HO_287002 := n1_; have HO_287003 := n2_; have BK280 := n3_; have BK286 := n4_; have HB := n5_; clear n0_ n1_ n2_ n3_ n4_ n5_)); have hnb51 := NB286_280.out; have hnc51 := NB280_286.out; have hcz52_0 : wr.cell? ⟨gb286, 0, none⟩ = some (.bool ((rd l0 0) == 1)) := (blk_cell BK286.out 0).trans rfl; have hcz52_1 : wr.cell? ⟨gb286, 1, none⟩ = some (u287001) := (blk_cell BK286.out 1).trans rfl; have hcz52_2 : wr.cell? ⟨gb286, 2, none⟩ = some (u287002) := (blk_cell BK286.out 2).trans rfl; have hcz52_3 : wr.cell? ⟨gb286, 3, none⟩ = some (u287003) := (blk_cell BK286.out 3).trans rfl; have hfz52_0 := blk_frozen BK286.out 0; have hfz52_1 := blk_frozen BK286.out 1; have hfz52_2 := blk_frozen BK286.out 2; have hfz52_3 := blk_frozen BK286.out 3) | ((with_reducible refine gate_builtin (b := .append) (xs := #[.tmp 69, .tmp 71]) rfl ?_); at_builtin; refine Kd.R_append Kd.string (w0 := w) w.heap.size rfl (.tmp 69) (.tmp 71) 22 9 (.string ⟨#[]⟩) 16 rfl Try.underlying22 info9 rfl (by decide) (by omega) u287001 x287001_3 t296 [.string t296] (fun k_ => some k_ ≠ (u287002 : Value).ownBlock) (fun _ => False) rfl rfl ?aP (fun _ hk => hk.elim) ?aF ?aO ?aB ?aS ?aL ?_; (case aP => exact rfl); (case aB => exact (by repeat (first | (with_reducible first | exact HB.out | apply below_alloc | apply pw_below_drewN | apply below_drew1 | refine below_set ?_ GE280.out | refine below_set ?_ GE286.out) | exact HB.out))); (case aF => exact (fun k_ hk => Kd.fresh' (Kd.R_lt (by (with_reducible repeat (first | apply Kd.R_alloc | apply Kd.R_drewN | apply Kd.R_drew)); exact HO_287002.out)) k_ hk)); (case aO => exact (by (with_reducible repeat (first | apply Kd.R_alloc | apply Kd.R_drewN | apply Kd.R_drew)); exact HO_287001.out)); (case aS => exact (below_size (by repeat (first | (with_reducible first | exact HB.out | apply below_alloc | apply pw_below_drewN | apply below_drew1 | refine below_set ?_ GE280.out | refine below_set ?_ GE286.out) | exact HB.out)))); (case aL => have := LMc38.out; omega); intro v300 w53 ho hb hg hat; rw [← Ny299.out] at ho; have n0_ := Aside0.mk (Kd.R_after (ok := (fun _ => True)) (by (with_reducible repeat (first | apply Kd.R_alloc | apply Kd.R_drewN | apply Kd.R_drew)); exact Kd.R_mono HO_287002.out (fun _ hk => ⟨trivial, hk⟩)) hg hat); have n1_ := Aside0.mk (Kd.R_over' (by (with_reducible repeat (first | apply Kd.R_alloc | apply Kd.R_drewN | apply Kd.R_drew)); exact HO_287003.out) (Kd.R_typed (by (with_reducible repeat (first | apply Kd.R_alloc | apply Kd.R_drewN | apply Kd.R_drew)); exact HO_287001.out)) (by decide) hg); have n2_ := Aside0.mk (blk_grown (g := gb280) (o := .cells #[.bool x281000_3, .slice none 0 0, .slice none 0 0, .slice none 0 0] 25 (0, 0)) (by (with_reducible repeat (first | refine blk_drewN ?_ _ | refine blk_drew ?_ | refine blk_alloc ?_ _)); exact BK280.out) hg (Kd.R_ne HO_287001.out BK280.out (by decide))); have n3_ := Aside0.mk (blk_grown (g := gb286) (o := .cells #[.bool ((rd l0 0) == 1), u287001, u287002, u287003] 25 (0, 0)) (by (with_reducible repeat (first | refine blk_drewN ?_ _ | refine blk_drew ?_ | refine blk_alloc ?_ _)); exact BK286.out) hg (Kd.R_ne HO_287001.out BK286.out (by decide))); have n4_ := Aside0.mk (hb); have n5_ := Aside0.mk (ho); clear HO_287002; clear HO_287003; clear BK280; clear BK286; clear HB; clear HO_287001; have HO_287002 := n0_; have HO_287003 := n1_; have BK280 := n2_; have BK286 := n3_; have HB := n4_; have HO301 := n5_; clear n0_ n1_ n2_ n3_ n4_ n5_; clear ho hb hg hat; obtain ⟨Ao54, co54, eo54⟩ := Kd.R_slice HO301.out; subst eo54; have hcz55_0 : w53.cell? ⟨gb286, 0, none⟩ = some (.bool ((rd l0 0) == 1)) := (blk_cell BK286.out 0).trans rfl; have hcz55_1 : w53.cell? ⟨gb286, 1, none⟩ = some (u287001) := (blk_cell BK286.out 1).trans rfl; have hcz55_2 : w53.cell? ⟨gb286, 2, none⟩ = some (u287002) := (blk_cell BK286.out 2).trans rfl; have hcz55_3 : w53.cell? ⟨gb286, 3, none⟩ = some (u287003) := (blk_cell BK286.out 3).trans rfl; have hfz55_0 := blk_frozen BK286.out 0; have hfz55_1 := blk_frozen BK286.out 1; have hfz55_2 := blk_frozen BK286.out 2; have hfz55_3 := blk_frozen BK286.out 3) | ((with_reducible refine gate_callee (f := 33) rfl ?_); refine goesL_ (some 79) rfl rfl Try.func33 (by kernel_rfl) rfl #[.slice (some ad283) l0.length c0, .int .i64 t297] rfl (by (try simp only [List.map_toArray, List.map_cons, List.map_nil]); first | done | rfl | (simp only [List.length_drop, List.length_take]; rfl)) ?_; (with_reducible refine (aukletref22_text1.calls _ _ l0 t297 t302 t303 false _ ?side1 ?side2 A40.out).mono ?_); (case side1 => exact Kd.C_below HR0.out (by repeat (first | (with_reducible first | exact HB.out | apply below_alloc | apply pw_below_drewN | apply below_drew1 | refine below_set ?_ GE280.out | refine below_set ?_ GE286.out) | exact HB.out))); (case side2 => exact HC0.out); rintro e w' ⟨rfl, ⟨nd, rfl⟩⟩; refine ⟨_, rfl, ?_⟩; have hcz56_0 : w53.cell? ⟨gb280, 0, none⟩ = some (.bool x281000_3) := (blk_cell BK280.out 0).trans rfl; have hcz56_1 : w53.cell? ⟨gb280, 1, none⟩ = some (.slice none 0 0) := (blk_cell BK280.out 1).trans rfl; have hcz56_2 : w53.cell? ⟨gb280, 2, none⟩ = some (.slice none 0 0) := (blk_cell BK280.out 2).trans rfl; have hcz56_3 : w53.cell? ⟨gb280, 3, none⟩ = some (.slice none 0 0) := (blk_cell BK280.out 3).trans rfl; have hfz56_0 := blk_frozen BK280.out 0; have hfz56_1 := blk_frozen BK280.out 1; have hfz56_2 := blk_frozen BK280.out 2; have hfz56_3 := blk_frozen BK280.out 3))
                                refine bodyPost_ret (results_ct rfl _ _ gb280 25 #[.bool false, .slice none 0 0, .slice none 0 0, .slice none 0 0] (0, 0) _ rfl (by (with_reducible repeat (first | refine blk_drewN ?_ _ | refine blk_drew ?_ | refine blk_alloc ?_ _)); refine blk_put (cs := #[.bool false, .slice none 0 0, .slice none 0 0, .slice none 0 0]) ?_ 3 _ rfl; (with_reducible repeat (first | refine blk_drewN ?_ _ | refine blk_drew ?_ | refine blk_alloc ?_ _)); refine blk_put (cs := #[.bool false, .slice none 0 0, .slice none 0 0, .slice none 0 0]) ?_ 2 _ rfl; (with_reducible repeat (first | refine blk_drewN ?_ _ | refine blk_drew ?_ | refine blk_alloc ?_ _)); refine blk_put (cs := #[.bool false, .slice none 0 0, .slice none 0 0, .slice none 0 0]) ?_ 1 _ rfl; (with_reducible repeat (first | refine blk_drewN ?_ _ | refine blk_drew ?_ | refine blk_alloc ?_ _)); refine blk_put (cs := #[.bool x281000_3, .slice none 0 0, .slice none 0 0, .slice none 0 0]) ?_ 0 _ rfl; (with_reducible repeat (first | refine blk_drewN ?_ _ | refine blk_drew ?_ | refine blk_alloc ?_ _)); refine blk_far ?_ NB280_286.out _; (with_reducible repeat (first | refine blk_drewN ?_ _ | refine blk_drew ?_ | refine blk_alloc ?_ _)); exact BK280.out) Try.underlying25 rfl (by kernel_rfl)) rfl ?_
                                exact ⟨_, _, _, by first | rfl | (simp [errW_none, errW_some] <;> rfl) | (simp [*, errW_none, errW_some] <;> rfl), by first | exact Kd.R_nil _ _ _ _ _ | exact Kd.N_nil _ _ _ _ _ | exact Kd.V_nil _ _ _ _ _ | exact Kd.Q_nil _ _ _ _ _ | exact Kd.S_nil _ _ _ _ _, by first | exact Kd.R_nil _ _ _ _ _ | exact Kd.N_nil _ _ _ _ _ | exact Kd.V_nil _ _ _ _ _ | exact Kd.Q_nil _ _ _ _ _ | exact Kd.S_nil _ _ _ _ _, by first | exact Kd.R_nil _ _ _ _ _ | exact Kd.N_nil _ _ _ _ _ | exact Kd.V_nil _ _ _ _ _ | exact Kd.Q_nil _ _ _ _ _ | exact Kd.S_nil _ _ _ _ _, by repeat (first | (with_reducible first | exact HB.out | apply below_alloc | apply pw_below_drewN | apply below_drew1 | refine below_set ?_ GE280.out | refine below_set ?_ GE286.out) | exact HB.out)⟩
                            · rw [if_neg c39] at H
                              have c39b0 : ((rd l0 0) == 1) = false := by simpa using c39
                              (try (have c39b1 : decide ((rd l0 0) = 1) = false := by simpa using c39))
                              (try (have c39b2 : ((rd l0 0) == 1) = false := by simpa using c39))
                              (try (have c39b3 : ¬ ((rd l0 0) = 1) := by simpa using c39))
                              clear c39
                              by_cases c57 : (wrap64 (t297 + 4)) > 512
                              · rw [if_pos c57] at H
                                have c57b0 : decide (512 < (wrap64 (t297 + 4))) = true := decide_eq_true c57
                                clear c57
                                simp only [Option.some.injEq, Prod.mk.injEq] at H
                                obtain ⟨rfl, rfl, rfl, rfl, rfl⟩ := H
                                go_wp2_with (first | ((with_reducible refine gate_callee (f := 33) rfl ?_); refine goesL_ (some 61) rfl rfl Try.func33 (by kernel_rfl) rfl #[.slice (some ad283) l0.length c0, .int .i64 x5_3] rfl (by (try simp only [List.map_toArray, List.map_cons, List.map_nil]); first | done | rfl | (simp only [List.length_drop, List.length_take]; rfl)) ?_; (with_reducible refine (aukletref22_text1.calls _ _ l0 x5_3 t296 t297 true _ ?side1 ?side2 A36.out).mono ?_); (case side1 => repeat (first | exact (Kd.C_below HR0.out HB.out) | (with_reducible refine Kd.C_alloc ?_ _) | (with_reducible refine Kd.C_drewN ?_ _) | (with_reducible refine Kd.C_drew ?_))); (case side2 => exact HC0.out); rintro e w' ⟨rfl, ⟨nd, rfl⟩⟩; refine ⟨_, rfl, ?_⟩; (try (rw [drewN_self wr]; generalize hq_ : World.drewN wr _ = wr; have n0_ : Aside0 (Kd.R Kd.string 9 wr w.heap.size (fun k_ => some k_ ≠ (u287002 : Value).ownBlock) u287001 x287001_3) := ⟨by rw [← hq_]; exact (by (with_reducible repeat (first | apply Kd.R_alloc | apply Kd.R_drewN | apply Kd.R_drew)); exact HO_287001.out)⟩; have n1_ : Aside0 (Kd.R Kd.string 9 wr w.heap.size (fun k_ => some k_ ≠ (u287001 : Value).ownBlock) u287002 x287002_3) := ⟨by rw [← hq_]; exact (by (with_reducible repeat (first | apply Kd.R_alloc | apply Kd.R_drewN | apply Kd.R_drew)); exact HO_287002.out)⟩; have n2_ : Aside0 (Kd.R (Kd.int .i64) 3 wr w.heap.size (fun _ => True) u287003 x287003_3) := ⟨by rw [← hq_]; exact (by (with_reducible repeat (first | apply Kd.R_alloc | apply Kd.R_drewN | apply Kd.R_drew)); exact HO_287003.out)⟩; have n3_ : Aside0 (wr.heap[gb280]? = some (.cells #[.bool x281000_3, .slice none 0 0, .slice none 0 0, .slice none 0 0] 25 (0, 0))) := ⟨by rw [← hq_]; exact (by (with_reducible repeat (first | refine blk_drewN ?_ _ | refine blk_drew ?_ | refine blk_alloc ?_ _)); exact BK280.out)⟩; have n4_ : Aside0 (wr.heap[gb286]? = some (.cells #[.bool ((rd l0 0) == 1), u287001, u287002, u287003] 25 (0, 0))) := ⟨by rw [← hq_]; exact (by (with_reducible repeat (first | refine blk_drewN ?_ _ | refine blk_drew ?_ | refine blk_alloc ?_ _)); exact BK286.out)⟩; have n5_ : Aside0 (Below w.heap.size w wr) := ⟨by rw [← hq_]; exact (by repeat (first | (with_reducible first | exact HB.out | apply below_alloc | apply pw_below_drewN | apply below_drew1 | refine below_set ?_ GE280.out | refine below_set ?_ GE286.out) | exact HB.out))⟩; clear HO_287001 HO_287002 HO_287003 BK280 BK286 HB hq_; have HO_287001 := n0_; have HO_287002 := n1_; have HO_287003 := n2_; have BK280 := n3_; have BK286 := n4_; have HB := n5_; clear n0_ n1_ n2_ n3_ n4_ n5_)); have hnb58 := NB286_280.out; have hnc58 := NB280_286.out; have hcz59_0 : wr.cell? ⟨gb286, 0, none⟩ = some (.bool ((rd l0 0) == 1)) := (blk_cell BK286.out 0).trans rfl; have hcz59_1 : wr.cell? ⟨gb286, 1, none⟩ = some (u287001) := (blk_cell BK286.out 1).trans rfl; have hcz59_2 : wr.cell? ⟨gb286, 2, none⟩ = some (u287002) := (blk_cell BK286.out 2).trans rfl; have hcz59_3 : wr.cell? ⟨gb286, 3, none⟩ = some (u287003) := (blk_cell BK286.out 3).trans rfl; have hfz59_0 := blk_frozen BK286.out 0; have hfz59_1 := blk_frozen BK286.out 1; have hfz59_2 := blk_frozen BK286.out 2; have hfz59_3 := blk_frozen BK286.out 3) | ((with_reducible refine gate_builtin (b := .append) (xs := #[.tmp 69, .tmp 71]) rfl ?_); at_builtin; refine Kd.R_append Kd.string (w0 := w) w.heap.size rfl (.tmp 69) (.tmp 71) 22 9 (.string ⟨#[]⟩) 16 rfl Try.underlying22 info9 rfl (by decide) (by omega) u287001 x287001_3 t296 [.string t296] (fun k_ => some k_ ≠ (u287002 : Value).ownBlock) (fun _ => False) rfl rfl ?aP (fun _ hk => hk.elim) ?aF ?aO ?aB ?aS ?aL ?_; (case aP => exact rfl); (case aB => exact (by repeat (first | (with_reducible first | exact HB.out | apply below_alloc | apply pw_below_drewN | apply below_drew1 | refine below_set ?_ GE280.out | refine below_set ?_ GE286.out) | exact HB.out))); (case aF => exact (fun k_ hk => Kd.fresh' (Kd.R_lt (by (with_reducible repeat (first | apply Kd.R_alloc | apply Kd.R_drewN | apply Kd.R_drew)); exact HO_287002.out)) k_ hk)); (case aO => exact (by (with_reducible repeat (first | apply Kd.R_alloc | apply Kd.R_drewN | apply Kd.R_drew)); exact HO_287001.out)); (case aS => exact (below_size (by repeat (first | (with_reducible first | exact HB.out | apply below_alloc | apply pw_below_drewN | apply below_drew1 | refine below_set ?_ GE280.out | refine below_set ?_ GE286.out) | exact HB.out)))); (case aL => have := LMc38.out; omega); intro v300 w60 ho hb hg hat; rw [← Ny299.out] at ho; have n0_ := Aside0.mk (Kd.R_after (ok := (fun _ => True)) (by (with_reducible repeat (first | apply Kd.R_alloc | apply Kd.R_drewN | apply Kd.R_drew)); exact Kd.R_mono HO_287002.out (fun _ hk => ⟨trivial, hk⟩)) hg hat); have n1_ := Aside0.mk (Kd.R_over' (by (with_reducible repeat (first | apply Kd.R_alloc | apply Kd.R_drewN | apply Kd.R_drew)); exact HO_287003.out) (Kd.R_typed (by (with_reducible repeat (first | apply Kd.R_alloc | apply Kd.R_drewN | apply Kd.R_drew)); exact HO_287001.out)) (by decide) hg); have n2_ := Aside0.mk (blk_grown (g := gb280) (o := .cells #[.bool x281000_3, .slice none 0 0, .slice none 0 0, .slice none 0 0] 25 (0, 0)) (by (with_reducible repeat (first | refine blk_drewN ?_ _ | refine blk_drew ?_ | refine blk_alloc ?_ _)); exact BK280.out) hg (Kd.R_ne HO_287001.out BK280.out (by decide))); have n3_ := Aside0.mk (blk_grown (g := gb286) (o := .cells #[.bool ((rd l0 0) == 1), u287001, u287002, u287003] 25 (0, 0)) (by (with_reducible repeat (first | refine blk_drewN ?_ _ | refine blk_drew ?_ | refine blk_alloc ?_ _)); exact BK286.out) hg (Kd.R_ne HO_287001.out BK286.out (by decide))); have n4_ := Aside0.mk (hb); have n5_ := Aside0.mk (ho); clear HO_287002; clear HO_287003; clear BK280; clear BK286; clear HB; clear HO_287001; have HO_287002 := n0_; have HO_287003 := n1_; have BK280 := n2_; have BK286 := n3_; have HB := n4_; have HO301 := n5_; clear n0_ n1_ n2_ n3_ n4_ n5_; clear ho hb hg hat; obtain ⟨Ao61, co61, eo61⟩ := Kd.R_slice HO301.out; subst eo61; have hcz62_0 : w60.cell? ⟨gb286, 0, none⟩ = some (.bool ((rd l0 0) == 1)) := (blk_cell BK286.out 0).trans rfl; have hcz62_1 : w60.cell? ⟨gb286, 1, none⟩ = some (u287001) := (blk_cell BK286.out 1).trans rfl; have hcz62_2 : w60.cell? ⟨gb286, 2, none⟩ = some (u287002) := (blk_cell BK286.out 2).trans rfl; have hcz62_3 : w60.cell? ⟨gb286, 3, none⟩ = some (u287003) := (blk_cell BK286.out 3).trans rfl; have hfz62_0 := blk_frozen BK286.out 0; have hfz62_1 := blk_frozen BK286.out 1; have hfz62_2 := blk_frozen BK286.out 2; have hfz62_3 := blk_frozen BK286.out 3; have hcz63_0 : w60.cell? ⟨gb280, 0, none⟩ = some (.bool x281000_3) := (blk_cell BK280.out 0).trans rfl; have hcz63_1 : w60.cell? ⟨gb280, 1, none⟩ = some (.slice none 0 0) := (blk_cell BK280.out 1).trans rfl; have hcz63_2 : w60.cell? ⟨gb280, 2, none⟩ = some (.slice none 0 0) := (blk_cell BK280.out 2).trans rfl; have hcz63_3 : w60.cell? ⟨gb280, 3, none⟩ = some (.slice none 0 0) := (blk_cell BK280.out 3).trans rfl; have hfz63_0 := blk_frozen BK280.out 0; have hfz63_1 := blk_frozen BK280.out 1; have hfz63_2 := blk_frozen BK280.out 2; have hfz63_3 := blk_frozen BK280.out 3))
                                refine bodyPost_ret (results_ct rfl _ _ gb280 25 #[.bool false, .slice none 0 0, .slice none 0 0, .slice none 0 0] (0, 0) _ rfl (by (with_reducible repeat (first | refine blk_drewN ?_ _ | refine blk_drew ?_ | refine blk_alloc ?_ _)); refine blk_put (cs := #[.bool false, .slice none 0 0, .slice none 0 0, .slice none 0 0]) ?_ 3 _ rfl; (with_reducible repeat (first | refine blk_drewN ?_ _ | refine blk_drew ?_ | refine blk_alloc ?_ _)); refine blk_put (cs := #[.bool false, .slice none 0 0, .slice none 0 0, .slice none 0 0]) ?_ 2 _ rfl; (with_reducible repeat (first | refine blk_drewN ?_ _ | refine blk_drew ?_ | refine blk_alloc ?_ _)); refine blk_put (cs := #[.bool false, .slice none 0 0, .slice none 0 0, .slice none 0 0]) ?_ 1 _ rfl; (with_reducible repeat (first | refine blk_drewN ?_ _ | refine blk_drew ?_ | refine blk_alloc ?_ _)); refine blk_put (cs := #[.bool x281000_3, .slice none 0 0, .slice none 0 0, .slice none 0 0]) ?_ 0 _ rfl; (with_reducible repeat (first | refine blk_drewN ?_ _ | refine blk_drew ?_ | refine blk_alloc ?_ _)); refine blk_far ?_ NB280_286.out _; (with_reducible repeat (first | refine blk_drewN ?_ _ | refine blk_drew ?_ | refine blk_alloc ?_ _)); exact BK280.out) Try.underlying25 rfl (by kernel_rfl)) rfl ?_
                                exact ⟨_, _, _, by first | rfl | (simp [errW_none, errW_some] <;> rfl) | (simp [*, errW_none, errW_some] <;> rfl), by first | exact Kd.R_nil _ _ _ _ _ | exact Kd.N_nil _ _ _ _ _ | exact Kd.V_nil _ _ _ _ _ | exact Kd.Q_nil _ _ _ _ _ | exact Kd.S_nil _ _ _ _ _, by first | exact Kd.R_nil _ _ _ _ _ | exact Kd.N_nil _ _ _ _ _ | exact Kd.V_nil _ _ _ _ _ | exact Kd.Q_nil _ _ _ _ _ | exact Kd.S_nil _ _ _ _ _, by first | exact Kd.R_nil _ _ _ _ _ | exact Kd.N_nil _ _ _ _ _ | exact Kd.V_nil _ _ _ _ _ | exact Kd.Q_nil _ _ _ _ _ | exact Kd.S_nil _ _ _ _ _, by repeat (first | (with_reducible first | exact HB.out | apply below_alloc | apply pw_below_drewN | apply below_drew1 | refine below_set ?_ GE280.out | refine below_set ?_ GE286.out) | exact HB.out)⟩
                              · rw [if_neg c57] at H
                                have c57b0 : decide (512 < (wrap64 (t297 + 4))) = false := decide_eq_false c57
                                clear c57
                                by_cases c64 : 0 ≤ t297
                                · rw [if_pos c64] at H
                                  have c64b0 := eq_true c64
                                  have c64b1 : decide (0 ≤ t297) = true := decide_eq_true c64
                                  clear c64
                                  by_cases c65 : t297 ≤ (wrap64 (t297 + 4))
                                  · rw [if_pos c65] at H
                                    have c65b0 := eq_true c65
                                    have c65b1 : decide (t297 ≤ (wrap64 (t297 + 4))) = true := decide_eq_true c65
                                    by_cases c66 : (wrap64 (t297 + 4)) ≤ (l0.length : Int)
                                    · rw [if_pos c66] at H
                                      have c66b0 := eq_true c66
                                      have c66b1 : decide ((wrap64 (t297 + 4)) ≤ (l0.length : Int)) = true := decide_eq_true c66
                                      replace H := Option.bind_eq_some_iff.mp H
                                      obtain ⟨t309, A670, H⟩ := H
                                      replace H : (if x287003_3.length < 17592186044416 then (aukletref22_Take.l0 k3 l0 (wrap64 (t297 + 4)) (wrap64 (t285)) (wrap64 (x7_3 + 1)) ((rd l0 0) == 1) y299 x287002_3 (x287003_3 ++ [wrap64 (t309)])) else (none)) = some (r1, r2, r3, r4, r5) := H
                                      have A67 := Aside0.mk A670
                                      clear A670
                                      by_cases c68 : x287003_3.length < 17592186044416
                                      · rw [if_pos c68] at H
                                        have LMc68 := Aside0.mk c68
                                        clear c68
                                        obtain ⟨y310, hy310⟩ : ∃ y_ : List Int, y_ = (x287003_3 ++ [wrap64 (t309)]) := ⟨_, rfl⟩
                                        replace H : (aukletref22_Take.l0 k3 l0 (wrap64 (t297 + 4)) (wrap64 (t285)) (wrap64 (x7_3 + 1)) ((rd l0 0) == 1) y299 x287002_3 y310) = some (r1, r2, r3, r4, r5) := by first | (rw [hy310]; with_reducible exact H) | (have H2_ := (Option.bind_some _ _).symm.trans H; rw [hy310]; with_reducible exact H2_) | (have H2_ := (Option.bind_some _ _).symm.trans H; with_reducible exact H2_) | with_reducible exact H | (rw [hy310]; exact H) | exact H
                                        have Ny310 := Aside0.mk hy310
                                        clear hy310
                                        have H' := Aside0.mk H
                                        clear H
                                        try go_wp2_with (first | ((with_reducible refine gate_callee (f := 33) rfl ?_); refine goesL_ (some 61) rfl rfl Try.func33 (by kernel_rfl) rfl #[.slice (some ad283) l0.length c0, .int .i64 x5_3] rfl (by (try simp only [List.map_toArray, List.map_cons, List.map_nil]); first | done | rfl | (simp only [List.length_drop, List.length_take]; rfl)) ?_; (with_reducible refine (aukletref22_text1.calls _ _ l0 x5_3 t296 t297 true _ ?side1 ?side2 A36.out).mono ?_); (case side1 => repeat (first | exact (Kd.C_below HR0.out HB.out) | (with_reducible refine Kd.C_alloc ?_ _) | (with_reducible refine Kd.C_drewN ?_ _) | (with_reducible refine Kd.C_drew ?_))); (case side2 => exact HC0.out); rintro e w' ⟨rfl, ⟨nd, rfl⟩⟩; refine ⟨_, rfl, ?_⟩; (try (rw [drewN_self wr]; generalize hq_ : World.drewN wr _ = wr; have n0_ : Aside0 (Kd.R Kd.string 9 wr w.heap.size (fun k_ => some k_ ≠ (u287002 : Value).ownBlock) u287001 x287001_3) := ⟨by rw [← hq_]; exact (by (with_reducible repeat (first | apply Kd.R_alloc | apply Kd.R_drewN | apply Kd.R_drew)); exact HO_287001.out)⟩; have n1_ : Aside0 (Kd.R Kd.string 9 wr w.heap.size (fun k_ => some k_ ≠ (u287001 : Value).ownBlock) u287002 x287002_3) := ⟨by rw [← hq_]; exact (by (with_reducible repeat (first | apply Kd.R_alloc | apply Kd.R_drewN | apply Kd.R_drew)); exact HO_287002.out)⟩; have n2_ : Aside0 (Kd.R (Kd.int .i64) 3 wr w.heap.size (fun _ => True) u287003 x287003_3) := ⟨by rw [← hq_]; exact (by (with_reducible repeat (first | apply Kd.R_alloc | apply Kd.R_drewN | apply Kd.R_drew)); exact HO_287003.out)⟩; have n3_ : Aside0 (wr.heap[gb280]? = some (.cells #[.bool x281000_3, .slice none 0 0, .slice none 0 0, .slice none 0 0] 25 (0, 0))) := ⟨by rw [← hq_]; exact (by (with_reducible repeat (first | refine blk_drewN ?_ _ | refine blk_drew ?_ | refine blk_alloc ?_ _)); exact BK280.out)⟩; have n4_ : Aside0 (wr.heap[gb286]? = some (.cells #[.bool ((rd l0 0) == 1), u287001, u287002, u287003] 25 (0, 0))) := ⟨by rw [← hq_]; exact (by (with_reducible repeat (first | refine blk_drewN ?_ _ | refine blk_drew ?_ | refine blk_alloc ?_ _)); exact BK286.out)⟩; have n5_ : Aside0 (Below w.heap.size w wr) := ⟨by rw [← hq_]; exact (by repeat (first | (with_reducible first | exact HB.out | apply below_alloc | apply pw_below_drewN | apply below_drew1 | refine below_set ?_ GE280.out | refine below_set ?_ GE286.out) | exact HB.out))⟩; clear HO_287001 HO_287002 HO_287003 BK280 BK286 HB hq_; have HO_287001 := n0_; have HO_287002 := n1_; have HO_287003 := n2_; have BK280 := n3_; have BK286 := n4_; have HB := n5_; clear n0_ n1_ n2_ n3_ n4_ n5_)); have hnb69 := NB286_280.out; have hnc69 := NB280_286.out; have hcz70_0 : wr.cell? ⟨gb286, 0, none⟩ = some (.bool ((rd l0 0) == 1)) := (blk_cell BK286.out 0).trans rfl; have hcz70_1 : wr.cell? ⟨gb286, 1, none⟩ = some (u287001) := (blk_cell BK286.out 1).trans rfl; have hcz70_2 : wr.cell? ⟨gb286, 2, none⟩ = some (u287002) := (blk_cell BK286.out 2).trans rfl; have hcz70_3 : wr.cell? ⟨gb286, 3, none⟩ = some (u287003) := (blk_cell BK286.out 3).trans rfl; have hfz70_0 := blk_frozen BK286.out 0; have hfz70_1 := blk_frozen BK286.out 1; have hfz70_2 := blk_frozen BK286.out 2; have hfz70_3 := blk_frozen BK286.out 3) | ((with_reducible refine gate_builtin (b := .append) (xs := #[.tmp 69, .tmp 71]) rfl ?_); at_builtin; refine Kd.R_append Kd.string (w0 := w) w.heap.size rfl (.tmp 69) (.tmp 71) 22 9 (.string ⟨#[]⟩) 16 rfl Try.underlying22 info9 rfl (by decide) (by omega) u287001 x287001_3 t296 [.string t296] (fun k_ => some k_ ≠ (u287002 : Value).ownBlock) (fun _ => False) rfl rfl ?aP (fun _ hk => hk.elim) ?aF ?aO ?aB ?aS ?aL ?_; (case aP => exact rfl); (case aB => exact (by repeat (first | (with_reducible first | exact HB.out | apply below_alloc | apply pw_below_drewN | apply below_drew1 | refine below_set ?_ GE280.out | refine below_set ?_ GE286.out) | exact HB.out))); (case aF => exact (fun k_ hk => Kd.fresh' (Kd.R_lt (by (with_reducible repeat (first | apply Kd.R_alloc | apply Kd.R_drewN | apply Kd.R_drew)); exact HO_287002.out)) k_ hk)); (case aO => exact (by (with_reducible repeat (first | apply Kd.R_alloc | apply Kd.R_drewN | apply Kd.R_drew)); exact HO_287001.out)); (case aS => exact (below_size (by repeat (first | (with_reducible first | exact HB.out | apply below_alloc | apply pw_below_drewN | apply below_drew1 | refine below_set ?_ GE280.out | refine below_set ?_ GE286.out) | exact HB.out)))); (case aL => have := LMc38.out; omega); intro v300 w71 ho hb hg hat; rw [← Ny299.out] at ho; have n0_ := Aside0.mk (Kd.R_after (ok := (fun _ => True)) (by (with_reducible repeat (first | apply Kd.R_alloc | apply Kd.R_drewN | apply Kd.R_drew)); exact Kd.R_mono HO_287002.out (fun _ hk => ⟨trivial, hk⟩)) hg hat); have n1_ := Aside0.mk (Kd.R_over' (by (with_reducible repeat (first | apply Kd.R_alloc | apply Kd.R_drewN | apply Kd.R_drew)); exact HO_287003.out) (Kd.R_typed (by (with_reducible repeat (first | apply Kd.R_alloc | apply Kd.R_drewN | apply Kd.R_drew)); exact HO_287001.out)) (by decide) hg); have n2_ := Aside0.mk (blk_grown (g := gb280) (o := .cells #[.bool x281000_3, .slice none 0 0, .slice none 0 0, .slice none 0 0] 25 (0, 0)) (by (with_reducible repeat (first | refine blk_drewN ?_ _ | refine blk_drew ?_ | refine blk_alloc ?_ _)); exact BK280.out) hg (Kd.R_ne HO_287001.out BK280.out (by decide))); have n3_ := Aside0.mk (blk_grown (g := gb286) (o := .cells #[.bool ((rd l0 0) == 1), u287001, u287002, u287003] 25 (0, 0)) (by (with_reducible repeat (first | refine blk_drewN ?_ _ | refine blk_drew ?_ | refine blk_alloc ?_ _)); exact BK286.out) hg (Kd.R_ne HO_287001.out BK286.out (by decide))); have n4_ := Aside0.mk (hb); have n5_ := Aside0.mk (ho); clear HO_287002; clear HO_287003; clear BK280; clear BK286; clear HB; clear HO_287001; have HO_287002 := n0_; have HO_287003 := n1_; have BK280 := n2_; have BK286 := n3_; have HB := n4_; have HO301 := n5_; clear n0_ n1_ n2_ n3_ n4_ n5_; clear ho hb hg hat; obtain ⟨Ao72, co72, eo72⟩ := Kd.R_slice HO301.out; subst eo72; have hcz73_0 : w71.cell? ⟨gb286, 0, none⟩ = some (.bool ((rd l0 0) == 1)) := (blk_cell BK286.out 0).trans rfl; have hcz73_1 : w71.cell? ⟨gb286, 1, none⟩ = some (u287001) := (blk_cell BK286.out 1).trans rfl; have hcz73_2 : w71.cell? ⟨gb286, 2, none⟩ = some (u287002) := (blk_cell BK286.out 2).trans rfl; have hcz73_3 : w71.cell? ⟨gb286, 3, none⟩ = some (u287003) := (blk_cell BK286.out 3).trans rfl; have hfz73_0 := blk_frozen BK286.out 0; have hfz73_1 := blk_frozen BK286.out 1; have hfz73_2 := blk_frozen BK286.out 2; have hfz73_3 := blk_frozen BK286.out 3))
                                        have n0_ : Aside0 (Kd.R Kd.string 9 (w71.setCell ⟨gb286, 1, none⟩ (.slice Ao72 y299.length co72)) w.heap.size (fun k_ => some k_ ≠ (.slice Ao72 y299.length co72 : Value).ownBlock) u287002 x287002_3) := ⟨by (with_reducible repeat (first | apply Kd.R_alloc | apply Kd.R_drewN | apply Kd.R_drew)); exact Kd.R_mono (Kd.R_far (p := ⟨gb286, 1, none⟩) (Kd.R_types HO_287002.out BK286.out (by decide)) (fun _ hk => hk.2) (.slice Ao72 y299.length co72)) (fun _ hk => hk.1.2)⟩
                                        have n1_ : Aside0 (Kd.R (Kd.int .i64) 3 (w71.setCell ⟨gb286, 1, none⟩ (.slice Ao72 y299.length co72)) w.heap.size (fun _ => True) u287003 x287003_3) := ⟨by (with_reducible repeat (first | apply Kd.R_alloc | apply Kd.R_drewN | apply Kd.R_drew)); exact Kd.R_mono (Kd.R_far (p := ⟨gb286, 1, none⟩) (Kd.R_types HO_287003.out BK286.out (by decide)) (fun _ hk => hk.2) (.slice Ao72 y299.length co72)) (fun _ hk => trivial)⟩
                                        have n2_ : Aside0 (Kd.R Kd.string 9 (w71.setCell ⟨gb286, 1, none⟩ (.slice Ao72 y299.length co72)) w.heap.size (fun k_ => some k_ ≠ (u287002 : Value).ownBlock) (.slice Ao72 y299.length co72) y299) := ⟨by (with_reducible repeat (first | apply Kd.R_alloc | apply Kd.R_drewN | apply Kd.R_drew)); exact Kd.R_mono (Kd.R_far (p := ⟨gb286, 1, none⟩) (Kd.R_types HO301.out BK286.out (by decide)) (fun _ hk => hk.2) (.slice Ao72 y299.length co72)) (fun _ hk => hk.1)⟩
                                        have n3_ : Aside0 ((w71.setCell ⟨gb286, 1, none⟩ (.slice Ao72 y299.length co72)).heap[gb280]? = some (.cells #[.bool x281000_3, .slice none 0 0, .slice none 0 0, .slice none 0 0] 25 (0, 0))) := ⟨by (with_reducible repeat (first | refine blk_drewN ?_ _ | refine blk_drew ?_ | refine blk_alloc ?_ _)); refine blk_far ?_ NB280_286.out _; (with_reducible repeat (first | refine blk_drewN ?_ _ | refine blk_drew ?_ | refine blk_alloc ?_ _)); exact BK280.out⟩
                                        have n4_ : Aside0 ((w71.setCell ⟨gb286, 1, none⟩ (.slice Ao72 y299.length co72)).heap[gb286]? = some (.cells #[.bool ((rd l0 0) == 1), .slice Ao72 y299.length co72, u287002, u287003] 25 (0, 0))) := ⟨by (with_reducible repeat (first | refine blk_drewN ?_ _ | refine blk_drew ?_ | refine blk_alloc ?_ _)); refine blk_put (cs := #[.bool ((rd l0 0) == 1), u287001, u287002, u287003]) ?_ 1 _ rfl; (with_reducible repeat (first | refine blk_drewN ?_ _ | refine blk_drew ?_ | refine blk_alloc ?_ _)); exact BK286.out⟩
                                        have n5_ : Aside0 (Below w.heap.size w (w71.setCell ⟨gb286, 1, none⟩ (.slice Ao72 y299.length co72))) := ⟨by repeat (first | (with_reducible first | exact HB.out | apply below_alloc | apply pw_below_drewN | apply below_drew1 | refine below_set ?_ GE280.out | refine below_set ?_ GE286.out) | exact HB.out)⟩
                                        (try clear HO_287002)
                                        (try clear HO_287003)
                                        (try clear HO301)
                                        (try clear BK280)
                                        (try clear BK286)
                                        (try clear HB)
                                        generalize (w71.setCell ⟨gb286, 1, none⟩ (.slice Ao72 y299.length co72)) = w74 at n0_ n1_ n2_ n3_ n4_ n5_ ⊢
                                        have HO_287002 := n0_
                                        have HO_287003 := n1_
                                        have HO301 := n2_
                                        have BK280 := n3_
                                        have BK286 := n4_
                                        have HB := n5_
                                        clear n0_ n1_ n2_ n3_ n4_ n5_
                                        have n0_ := Aside0.mk (Kd.R_drew HO_287002.out)
                                        have n1_ := Aside0.mk (Kd.R_drew HO_287003.out)
                                        have n2_ := Aside0.mk (Kd.R_drew HO301.out)
                                        have n3_ := Aside0.mk (blk_drew BK280.out)
                                        have n4_ := Aside0.mk (blk_drew BK286.out)
                                        have n5_ := Aside0.mk (below_drew1 HB.out)
                                        clear HO_287002
                                        clear HO_287003
                                        clear HO301
                                        clear BK280
                                        clear BK286
                                        clear HB
                                        have HO_287002 := n0_
                                        have HO_287003 := n1_
                                        have HO301 := n2_
                                        have BK280 := n3_
                                        have BK286 := n4_
                                        have HB := n5_
                                        clear n0_ n1_ n2_ n3_ n4_ n5_
                                        obtain ⟨i076, hi076, _, hsz76, _⟩ := info_parts info5
                                        obtain ⟨A76, hcut76, hA76, hC76⟩ := print_mid_of (P := Try.prog) (Value.int .u8) 0 31 5 .i64 .i64 Try.underlying31 hi076 hsz76 (some ad283) c0 l0 t297 (wrap64 (t297 + 4)) (of_decide_eq_true (by first | (with_reducible assumption) | assumption)) (by first | omega | exact of_decide_eq_true (by first | (with_reducible assumption) | assumption)) (of_decide_eq_true (by first | (with_reducible assumption) | assumption)) HC0.out
                                        have HR308 := Aside0.mk (Kd.C_of_reads (h1 := fun _ => rfl) (hA76 _ (Kd.reads_of_C HR0.out)))
                                        have HC308 := Aside0.mk hC76
                                        clear hA76 hC76 hi076 hsz76
                                        refine start_ (n := 16) (S := fun w' => w'.cell? ⟨gb286, 0, none⟩ = some (.bool ((rd l0 0) == 1)) ∧ w'.cell? ⟨gb286, 1, none⟩ = some (.slice Ao72 y299.length co72) ∧ w'.cell? ⟨gb286, 2, none⟩ = some (u287002) ∧ w'.cell? ⟨gb286, 3, none⟩ = some (u287003)) (ds := [14]) #[false, false, false, false, false, false, false, false, false, false, false, false, false, false, false, false] (by kernel_rfl) rfl rfl ⟨(blk_cell BK286.out 0).trans rfl, (blk_cell BK286.out 1).trans rfl, (blk_cell BK286.out 2).trans rfl, (blk_cell BK286.out 3).trans rfl⟩ (fun hHeld => ?_); refine with_tabW aukletref22_Take.tab20 aukletref22_Take.bits20 (fun HT_ HW_ => ?_)
                                        generalize w74.drew = w75 at HO_287002 HO_287003 HO301 BK280 BK286 HB HR308 hHeld ⊢
                                        refine pure_ (i := 0) (N := some 97) (v := ?_) (a' := ?_) #[true, false, false, false, false, false, false, false, false, false, false, false, false, false, false, false] rfl rfl (any_of HT_.out (by kernel_rfl)) (fun _ _ _ h => h) (Or.inl ⟨by rfl, ?_⟩) ?_ ?_
                                        rotate_left
                                        · intro w'
                                          go_simp
                                          with_reducible rfl
                                        rotate_left
                                        · simp only [Act.put, List.setIfInBounds_toArray, List.set_cons_zero, List.set_cons_succ, i64_w, i32_w]
                                          rfl
                                        refine pure_ (i := 2) (N := some 99) (v := ?_) (a' := ?_) #[true, false, true, false, false, false, false, false, false, false, false, false, false, false, false, false] rfl rfl (any_of HT_.out (by kernel_rfl)) (fun _ _ _ h => h) (Or.inl ⟨by rfl, ?_⟩) ?_ ?_
                                        rotate_left
                                        · intro w'
                                          go_simp
                                          with_reducible rfl
                                        rotate_left
                                        · simp only [Act.put, List.setIfInBounds_toArray, List.set_cons_zero, List.set_cons_succ, i64_w, i32_w]
                                          rfl
                                        refine pure_ (i := 3) (N := some 100) (v := ?_) (a' := ?_) #[true, false, true, true, false, false, false, false, false, false, false, false, false, false, false, false] rfl rfl (any_of HT_.out (by kernel_rfl)) (fun _ _ _ h => h) (Or.inl ⟨by rfl, ?_⟩) ?_ ?_
                                        rotate_left
                                        · intro w'
                                          go_simp
                                          with_reducible rfl
                                        rotate_left
                                        · simp only [Act.put, List.setIfInBounds_toArray, List.set_cons_zero, List.set_cons_succ, i64_w, i32_w]
                                          rfl
                                        refine pure_ (i := 4) (N := some 101) (v := ?_) (a' := ?_) #[true, false, true, true, true, false, false, false, false, false, false, false, false, false, false, false] rfl rfl (any_of HT_.out (by kernel_rfl)) (fun _ _ _ h => h) (Or.inl ⟨by rfl, ?_⟩) ?_ ?_
                                        rotate_left
                                        · intro w'
                                          go_simp
                                          with_reducible rfl
                                        rotate_left
                                        · simp only [Act.put, List.setIfInBounds_toArray, List.set_cons_zero, List.set_cons_succ, i64_w, i32_w]
                                          rfl
                                        refine pure_ (i := 5) (N := some 102) (v := ?_) (a' := ?_) #[true, false, true, true, true, true, false, false, false, false, false, false, false, false, false, false] rfl rfl (any_of HT_.out (by kernel_rfl)) (fun _ _ _ h => h) (Or.inl ⟨by rfl, ?_⟩) ?_ ?_
                                        rotate_left
                                        · intro w'
                                          go_simp
                                          with_reducible rfl
                                        rotate_left
                                        · simp only [Act.put, List.setIfInBounds_toArray, List.set_cons_zero, List.set_cons_succ, i64_w, i32_w]
                                          rfl
                                        refine pure_ (i := 6) (N := some 103) (v := ?_) (a' := ?_) #[true, false, true, true, true, true, true, false, false, false, false, false, false, false, false, false] rfl rfl (any_of HT_.out (by kernel_rfl)) (fun _ _ _ h => h) (Or.inl ⟨by rfl, ?_⟩) ?_ ?_
                                        rotate_left
                                        · intro w'
                                          go_simp
                                          with_reducible rfl
                                        rotate_left
                                        · simp only [Act.put, List.setIfInBounds_toArray, List.set_cons_zero, List.set_cons_succ, i64_w, i32_w]
                                          rfl
                                        refine pure_ (i := 11) (N := some 108) (v := ?_) (a' := ?_) #[true, false, true, true, true, true, true, false, false, false, false, true, false, false, false, false] rfl rfl (any_of HT_.out (by kernel_rfl)) (fun _ _ _ h => h) (Or.inl ⟨by rfl, ?_⟩) ?_ ?_
                                        rotate_left
                                        · intro w'
                                          go_simp
                                          with_reducible rfl
                                        rotate_left
                                        · simp only [Act.put, List.setIfInBounds_toArray, List.set_cons_zero, List.set_cons_succ, i64_w, i32_w]
                                          rfl
                                        refine pure_ (i := 12) (N := some 109) (v := ?_) (a' := ?_) #[true, false, true, true, true, true, true, false, false, false, false, true, true, false, false, false] rfl rfl (any_of HT_.out (by kernel_rfl)) (fun _ _ _ h => h) (Or.inl ⟨by rfl, ?_⟩) ?_ ?_
                                        rotate_left
                                        · intro w'
                                          go_simp
                                          with_reducible rfl
                                        rotate_left
                                        · simp only [Act.put, List.setIfInBounds_toArray, List.set_cons_zero, List.set_cons_succ, i64_w, i32_w]
                                          rfl
                                        refine take_ (i := 1) (N := some 98) (v := ?_) (a' := ?_) #[true, true, true, true, true, true, true, false, false, false, false, true, true, false, false, false] rfl rfl (take_ofW HT_.out HW_.out (by kernel_rfl)) (fun _ _ _ h => h) (Or.inl ⟨by rfl, ?_⟩) hHeld ?_ ?_
                                        rotate_left
                                        · rintro w' ⟨s0, s1, s2, s3⟩
                                          go_simp
                                          with_reducible rfl
                                        rotate_left
                                        · simp only [Act.put, List.setIfInBounds_toArray, List.set_cons_zero, List.set_cons_succ, i64_w, i32_w]
                                          rfl
                                        refine one_ (i := 7) (N := some 104) #[true, true, true, true, true, true, true, true, false, false, false, true, true, false, false, false] rfl rfl (one_of HT_.out (by kernel_rfl)) (by decide) (fun K hK => ?_)
                                        refine goes_ Try.func32 (by kernel_rfl) rfl #[.slice A76 ((l0.take ((wrap64 (t297 + 4)) : Int).toNat).drop (t297 : Int).toNat).length (c0 - t297.toNat)] (by rfl) rfl rfl (by (try simp only [List.map_toArray, List.map_cons, List.map_nil]); first | done | (rw [show ((l0.take ((wrap64 (t297 + 4)) : Int).toNat).drop (t297 : Int).toNat).length = ((wrap64 (t297 + 4)).toNat - t297.toNat) from (by rw [List.length_drop, List.length_take]; have h_ : ((wrap64 (t297 + 4)) : Int) ≤ (l0.length : Int) := of_decide_eq_true (by first | (with_reducible assumption) | assumption); omega)] <;> rfl) | rfl | (simp only [List.length_drop, List.length_take]; rfl)) ?_
                                        with_reducible refine (aukletref20_Num.calls k3 _ _ ((l0.take ((wrap64 (t297 + 4)) : Int).toNat).drop (t297 : Int).toNat) t309 _ ?side1 ?side2 A67.out).mono ?_
                                        (case side1 => repeat (first | exact (Kd.C_below HR308.out HB.out) | (with_reducible refine Kd.C_alloc ?_ _) | (with_reducible refine Kd.C_drewN ?_ _) | (with_reducible refine Kd.C_drew ?_)))
                                        (case side2 => exact HC308.out)
                                        rintro e w' ⟨rfl, ⟨nd, rfl⟩⟩
                                        refine ⟨_, rfl, ?_⟩
                                        refine hK.out _ _ ⟨(blk_cell BK286.out 0).trans rfl, (blk_cell BK286.out 1).trans rfl, (blk_cell BK286.out 2).trans rfl, (blk_cell BK286.out 3).trans rfl⟩ (fun hHeld => ?_)
                                        clear hK K
                                        refine norm_ (a' := ?_) ?_ ?_
                                        rotate_left
                                        · show Act.put _ (some 104) _ = _
                                          simp only [Act.put, List.setIfInBounds_toArray, List.set_cons_zero, List.set_cons_succ, i64_w, i32_w]
                                          rfl
                                        refine pure_ (i := 8) (N := some 105) (v := ?_) (a' := ?_) #[true, true, true, true, true, true, true, true, true, false, false, true, true, false, false, false] rfl rfl (any_of HT_.out (by kernel_rfl)) (fun _ _ _ h => h) (Or.inl ⟨by rfl, ?_⟩) ?_ ?_
                                        rotate_left
                                        · intro w'
                                          go_simp
                                          with_reducible rfl
                                        rotate_left
                                        · simp only [Act.put, List.setIfInBounds_toArray, List.set_cons_zero, List.set_cons_succ, i64_w, i32_w]
                                          rfl
                                        refine one_ (i := 9) (N := some 106) #[true, true, true, true, true, true, true, true, true, true, false, true, true, false, false, false] rfl rfl (one_of HT_.out (by kernel_rfl)) (by decide) (fun K hK => ?_)
                                        refine value_ (w1 := ?_) (v := ?_) (by rfl) rfl ?_ ?_
                                        rotate_left 2
                                        · go_simp
                                          constructor
                                          · rfl
                                          · rfl
                                        refine hK.out _ _ ⟨(blk_cell (blk_alloc BK286.out _) 0).trans rfl, (blk_cell (blk_alloc BK286.out _) 1).trans rfl, (blk_cell (blk_alloc BK286.out _) 2).trans rfl, (blk_cell (blk_alloc BK286.out _) 3).trans rfl⟩ (fun hHeld => ?_)
                                        clear hK K
                                        refine norm_ (a' := ?_) ?_ ?_
                                        rotate_left
                                        · show Act.put _ (some 106) _ = _
                                          simp only [Act.put, List.setIfInBounds_toArray, List.set_cons_zero, List.set_cons_succ, i64_w, i32_w]
                                          rfl
                                        refine one_ (i := 10) (N := some 107) #[true, true, true, true, true, true, true, true, true, true, true, true, true, false, false, false] rfl rfl (one_of HT_.out (by kernel_rfl)) (by decide) (fun K hK => ?_)
                                        refine Kd.R_append_step (Kd.int .i64) (w0 := w) w.heap.size (by rfl) (.tmp 98) (.tmp 106) 23 3 (.int .i64 0) 8 rfl Try.underlying23 info3 rfl (by decide) (by omega) u287003 x287003_3 (wrap64 (t309)) [.int .i64 (wrap64 (t309))] (fun _ => True) (fun _ => False) rfl rfl ?aP (fun _ hk => hk.elim) ?aF ?aO ?aB ?aS ?aL ?_
                                        (case aP => exact rfl)
                                        (case aB => exact (by repeat (first | (with_reducible first | exact HB.out | apply below_alloc | apply pw_below_drewN | apply below_drew1 | refine below_set ?_ GE280.out | refine below_set ?_ GE286.out) | exact HB.out)))
                                        (case aF => exact (fun _ _ => trivial))
                                        (case aO => exact (by (with_reducible repeat (first | apply Kd.R_alloc | apply Kd.R_drewN | apply Kd.R_drew)); exact HO_287003.out))
                                        (case aS => exact (below_size (by repeat (first | (with_reducible first | exact HB.out | apply below_alloc | apply pw_below_drewN | apply below_drew1 | refine below_set ?_ GE280.out | refine below_set ?_ GE286.out) | exact HB.out))))
                                        (case aL => have := LMc68.out; omega)
                                        intro v311 w77 ho hb hg hat
                                        rw [← Ny310.out] at ho
                                        have n0_ := Aside0.mk (Kd.R_over' (by (with_reducible repeat (first | apply Kd.R_alloc | apply Kd.R_drewN | apply Kd.R_drew)); exact HO_287002.out) (Kd.R_typed (by (with_reducible repeat (first | apply Kd.R_alloc | apply Kd.R_drewN | apply Kd.R_drew)); exact HO_287003.out)) (by decide) hg)
                                        have n1_ := Aside0.mk (blk_grown (g := gb280) (o := .cells #[.bool x281000_3, .slice none 0 0, .slice none 0 0, .slice none 0 0] 25 (0, 0)) (by (with_reducible repeat (first | refine blk_drewN ?_ _ | refine blk_drew ?_ | refine blk_alloc ?_ _)); exact BK280.out) hg (Kd.R_ne HO_287003.out BK280.out (by decide)))
                                        have n2_ := Aside0.mk (blk_grown (g := gb286) (o := .cells #[.bool ((rd l0 0) == 1), .slice Ao72 y299.length co72, u287002, u287003] 25 (0, 0)) (by (with_reducible repeat (first | refine blk_drewN ?_ _ | refine blk_drew ?_ | refine blk_alloc ?_ _)); exact BK286.out) hg (Kd.R_ne HO_287003.out BK286.out (by decide)))
                                        have n3_ := Aside0.mk (Kd.R_over' (by (with_reducible repeat (first | apply Kd.R_alloc | apply Kd.R_drewN | apply Kd.R_drew)); exact HO301.out) (Kd.R_typed (by (with_reducible repeat (first | apply Kd.R_alloc | apply Kd.R_drewN | apply Kd.R_drew)); exact HO_287003.out)) (by decide) hg)
                                        have n4_ := Aside0.mk (hb)
                                        have n5_ := Aside0.mk (ho)
                                        clear HO_287002
                                        clear BK280
                                        clear BK286
                                        clear HO301
                                        clear HB
                                        clear HO_287003
                                        have HO_287002 := n0_
                                        have BK280 := n1_
                                        have BK286 := n2_
                                        have HO301 := n3_
                                        have HB := n4_
                                        have HO312 := n5_
                                        clear n0_ n1_ n2_ n3_ n4_ n5_
                                        clear ho hb hg hat
                                        obtain ⟨Ao78, co78, eo78⟩ := Kd.R_slice HO312.out
                                        (first | subst eo78 | (injection eo78 with f1_ f2_ f3_; have f4_ := f1_.symm; have f5_ := f3_.symm; clear f1_ f2_ f3_; subst f4_; subst f5_))
                                        refine hK.out _ _ ⟨(blk_cell BK286.out 0).trans rfl, (blk_cell BK286.out 1).trans rfl, (blk_cell BK286.out 2).trans rfl, (blk_cell BK286.out 3).trans rfl⟩ (fun hHeld => ?_)
                                        clear hK K
                                        refine norm_ (a' := ?_) ?_ ?_
                                        rotate_left
                                        · show Act.put _ (some 107) _ = _
                                          simp only [Act.put, List.setIfInBounds_toArray, List.set_cons_zero, List.set_cons_succ, i64_w, i32_w]
                                          rfl
                                        refine pure_ (i := 13) (N := some 110) (v := ?_) (a' := ?_) #[true, true, true, true, true, true, true, true, true, true, true, true, true, true, false, false] rfl rfl (any_of HT_.out (by kernel_rfl)) (fun _ _ _ h => h) (Or.inl ⟨by rfl, ?_⟩) ?_ ?_
                                        rotate_left
                                        · intro w'
                                          go_simp
                                          with_reducible rfl
                                        rotate_left
                                        · simp only [Act.put, List.setIfInBounds_toArray, List.set_cons_zero, List.set_cons_succ, i64_w, i32_w]
                                          rfl
                                        refine last_ (i := 14) (N := none) #[true, true, true, true, true, true, true, true, true, true, true, true, true, true, true, false] rfl rfl (one_of HT_.out (by kernel_rfl)) (by decide) (fun K hK => ?_)
                                        have hs79 : w77.cell? ⟨gb286, 3, none⟩ = some (u287003) := (blk_cell BK286.out 3).trans rfl
                                        have hfs79 := blk_frozen BK286.out 3
                                        have hns79_0 := NB280_286.out
                                        have hms79_0 := NB286_280.out
                                        refine skip_ (w1 := ?_) (by rfl) rfl ?_ ?_
                                        rotate_left
                                        · go_simp
                                          rfl
                                        refine hK.out _ _ ?_
                                        clear hK K
                                        refine pure_ (i := 15) (N := some 5) (v := ?_) (a' := ?_) #[true, true, true, true, true, true, true, true, true, true, true, true, true, true, true, true] rfl rfl (any_of HT_.out (by kernel_rfl)) (fun _ _ _ h => h) (Or.inl ⟨by rfl, ?_⟩) ?_ ?_
                                        rotate_left
                                        · intro w'
                                          go_simp
                                          with_reducible rfl
                                        rotate_left
                                        · simp only [Act.put, List.setIfInBounds_toArray, List.set_cons_zero, List.set_cons_succ, i64_w, i32_w]
                                          rfl
                                        refine done_ (done_of HT_.out (by kernel_rfl)) ?_
                                        try go_wp2
                                        go_roundg k3
                                        case measure => have := HJ1.out; have := HJ12.out; have := HK3.out; omega
                                        case rel => exact ⟨(wrap64 (t297 + 4)), (wrap64 (x7_3 + 1)), (x281000_3), (y299), (x287002_3), (y310), (.slice Ao72 y299.length co72), (u287002), (.slice Ao78 y310.length co78), (by first | rfl | (simp; done) | (simp [*]; done)), (by first | rfl | (simp; done) | (simp [*]; done)), H', ⟨by have := HJ1.out; have := HJ12.out; have := HK3.out; omega⟩, ⟨by (with_reducible repeat (first | apply Kd.R_alloc | apply Kd.R_drewN | apply Kd.R_drew)); exact Kd.R_mono (Kd.R_far (p := ⟨gb286, 3, none⟩) (Kd.R_types HO301.out BK286.out (by decide)) (fun _ hk => hk.2) (.slice Ao78 y310.length co78)) (fun _ hk => hk.1)⟩, ⟨by (with_reducible repeat (first | apply Kd.R_alloc | apply Kd.R_drewN | apply Kd.R_drew)); exact Kd.R_mono (Kd.R_far (p := ⟨gb286, 3, none⟩) (Kd.R_types HO_287002.out BK286.out (by decide)) (fun _ hk => hk.2) (.slice Ao78 y310.length co78)) (fun _ hk => hk.1)⟩, ⟨by (with_reducible repeat (first | apply Kd.R_alloc | apply Kd.R_drewN | apply Kd.R_drew)); exact Kd.R_mono (Kd.R_far (p := ⟨gb286, 3, none⟩) (Kd.R_types HO312.out BK286.out (by decide)) (fun _ hk => hk.2) (.slice Ao78 y310.length co78)) (fun _ hk => trivial)⟩, ⟨by (with_reducible repeat (first | refine blk_drewN ?_ _ | refine blk_drew ?_ | refine blk_alloc ?_ _)); refine blk_far ?_ NB280_286.out _; (with_reducible repeat (first | refine blk_drewN ?_ _ | refine blk_drew ?_ | refine blk_alloc ?_ _)); exact BK280.out⟩, ⟨by (with_reducible repeat (first | refine blk_drewN ?_ _ | refine blk_drew ?_ | refine blk_alloc ?_ _)); refine blk_put (cs := #[.bool ((rd l0 0) == 1), .slice Ao72 y299.length co72, u287002, u287003]) ?_ 3 _ rfl; (with_reducible repeat (first | refine blk_drewN ?_ _ | refine blk_drew ?_ | refine blk_alloc ?_ _)); exact BK286.out⟩, ⟨by repeat (first | (with_reducible first | exact HB.out | apply below_alloc | apply pw_below_drewN | apply below_drew1 | refine below_set ?_ GE280.out | refine below_set ?_ GE286.out) | exact HB.out)⟩⟩
                                      · rw [if_neg c68] at H
                                        exact absurd H (by simp)
                                    · rw [if_neg c66] at H
                                      exact absurd H (by simp)
                                  · rw [if_neg c65] at H
                                    exact absurd H (by simp)
                                · rw [if_neg c64] at H
                                  exact absurd H (by simp)
                          · rw [if_neg c38] at H
                            exact absurd H (by simp)
                        · replace c37 := Bool.eq_false_iff.mpr c37
                          subst c37
                          have H1 : (some (false, ([] : List ByteArray), ([] : List ByteArray), ([] : List Int), 200)) = some (r1, r2, r3, r4, r5) := by rw [if_neg (show ¬ (false = true) by decide)] at H; exact H
                          clear H
                          have H := H1
                          clear H1
                          simp only [Option.some.injEq, Prod.mk.injEq] at H
                          obtain ⟨rfl, rfl, rfl, rfl, rfl⟩ := H
                          go_wp2_with (first | ((with_reducible refine gate_callee (f := 33) rfl ?_); refine goesL_ (some 61) rfl rfl Try.func33 (by kernel_rfl) rfl #[.slice (some ad283) l0.length c0, .int .i64 x5_3] rfl (by (try simp only [List.map_toArray, List.map_cons, List.map_nil]); first | done | rfl | (simp only [List.length_drop, List.length_take]; rfl)) ?_; (with_reducible refine (aukletref22_text1.calls _ _ l0 x5_3 t296 t297 false _ ?side1 ?side2 A36.out).mono ?_); (case side1 => repeat (first | exact (Kd.C_below HR0.out HB.out) | (with_reducible refine Kd.C_alloc ?_ _) | (with_reducible refine Kd.C_drewN ?_ _) | (with_reducible refine Kd.C_drew ?_))); (case side2 => exact HC0.out); rintro e w' ⟨rfl, ⟨nd, rfl⟩⟩; refine ⟨_, rfl, ?_⟩; (try (rw [drewN_self wr]; generalize hq_ : World.drewN wr _ = wr; have n0_ : Aside0 (Kd.R Kd.string 9 wr w.heap.size (fun k_ => some k_ ≠ (u287002 : Value).ownBlock) u287001 x287001_3) := ⟨by rw [← hq_]; exact (by (with_reducible repeat (first | apply Kd.R_alloc | apply Kd.R_drewN | apply Kd.R_drew)); exact HO_287001.out)⟩; have n1_ : Aside0 (Kd.R Kd.string 9 wr w.heap.size (fun k_ => some k_ ≠ (u287001 : Value).ownBlock) u287002 x287002_3) := ⟨by rw [← hq_]; exact (by (with_reducible repeat (first | apply Kd.R_alloc | apply Kd.R_drewN | apply Kd.R_drew)); exact HO_287002.out)⟩; have n2_ : Aside0 (Kd.R (Kd.int .i64) 3 wr w.heap.size (fun _ => True) u287003 x287003_3) := ⟨by rw [← hq_]; exact (by (with_reducible repeat (first | apply Kd.R_alloc | apply Kd.R_drewN | apply Kd.R_drew)); exact HO_287003.out)⟩; have n3_ : Aside0 (wr.heap[gb280]? = some (.cells #[.bool x281000_3, .slice none 0 0, .slice none 0 0, .slice none 0 0] 25 (0, 0))) := ⟨by rw [← hq_]; exact (by (with_reducible repeat (first | refine blk_drewN ?_ _ | refine blk_drew ?_ | refine blk_alloc ?_ _)); exact BK280.out)⟩; have n4_ : Aside0 (wr.heap[gb286]? = some (.cells #[.bool ((rd l0 0) == 1), u287001, u287002, u287003] 25 (0, 0))) := ⟨by rw [← hq_]; exact (by (with_reducible repeat (first | refine blk_drewN ?_ _ | refine blk_drew ?_ | refine blk_alloc ?_ _)); exact BK286.out)⟩; have n5_ : Aside0 (Below w.heap.size w wr) := ⟨by rw [← hq_]; exact (by repeat (first | (with_reducible first | exact HB.out | apply below_alloc | apply pw_below_drewN | apply below_drew1 | refine below_set ?_ GE280.out | refine below_set ?_ GE286.out) | exact HB.out))⟩; clear HO_287001 HO_287002 HO_287003 BK280 BK286 HB hq_; have HO_287001 := n0_; have HO_287002 := n1_; have HO_287003 := n2_; have BK280 := n3_; have BK286 := n4_; have HB := n5_; clear n0_ n1_ n2_ n3_ n4_ n5_)); have hnb80 := NB280_286.out; have hnc80 := NB286_280.out; have hcz81_0 : wr.cell? ⟨gb280, 0, none⟩ = some (.bool x281000_3) := (blk_cell BK280.out 0).trans rfl; have hcz81_1 : wr.cell? ⟨gb280, 1, none⟩ = some (.slice none 0 0) := (blk_cell BK280.out 1).trans rfl; have hcz81_2 : wr.cell? ⟨gb280, 2, none⟩ = some (.slice none 0 0) := (blk_cell BK280.out 2).trans rfl; have hcz81_3 : wr.cell? ⟨gb280, 3, none⟩ = some (.slice none 0 0) := (blk_cell BK280.out 3).trans rfl; have hfz81_0 := blk_frozen BK280.out 0; have hfz81_1 := blk_frozen BK280.out 1; have hfz81_2 := blk_frozen BK280.out 2; have hfz81_3 := blk_frozen BK280.out 3))
                          refine bodyPost_ret (results_ct rfl _ _ gb280 25 #[.bool false, .slice none 0 0, .slice none 0 0, .slice none 0 0] (0, 0) _ rfl (by (with_reducible repeat (first | refine blk_drewN ?_ _ | refine blk_drew ?_ | refine blk_alloc ?_ _)); refine blk_put (cs := #[.bool false, .slice none 0 0, .slice none 0 0, .slice none 0 0]) ?_ 3 _ rfl; (with_reducible repeat (first | refine blk_drewN ?_ _ | refine blk_drew ?_ | refine blk_alloc ?_ _)); refine blk_put (cs := #[.bool false, .slice none 0 0, .slice none 0 0, .slice none 0 0]) ?_ 2 _ rfl; (with_reducible repeat (first | refine blk_drewN ?_ _ | refine blk_drew ?_ | refine blk_alloc ?_ _)); refine blk_put (cs := #[.bool false, .slice none 0 0, .slice none 0 0, .slice none 0 0]) ?_ 1 _ rfl; (with_reducible repeat (first | refine blk_drewN ?_ _ | refine blk_drew ?_ | refine blk_alloc ?_ _)); refine blk_put (cs := #[.bool x281000_3, .slice none 0 0, .slice none 0 0, .slice none 0 0]) ?_ 0 _ rfl; (with_reducible repeat (first | refine blk_drewN ?_ _ | refine blk_drew ?_ | refine blk_alloc ?_ _)); exact BK280.out) Try.underlying25 rfl (by kernel_rfl)) rfl ?_
                          exact ⟨_, _, _, by first | rfl | (simp [errW_none, errW_some] <;> rfl) | (simp [*, errW_none, errW_some] <;> rfl), by first | exact Kd.R_nil _ _ _ _ _ | exact Kd.N_nil _ _ _ _ _ | exact Kd.V_nil _ _ _ _ _ | exact Kd.Q_nil _ _ _ _ _ | exact Kd.S_nil _ _ _ _ _, by first | exact Kd.R_nil _ _ _ _ _ | exact Kd.N_nil _ _ _ _ _ | exact Kd.V_nil _ _ _ _ _ | exact Kd.Q_nil _ _ _ _ _ | exact Kd.S_nil _ _ _ _ _, by first | exact Kd.R_nil _ _ _ _ _ | exact Kd.N_nil _ _ _ _ _ | exact Kd.V_nil _ _ _ _ _ | exact Kd.Q_nil _ _ _ _ _ | exact Kd.S_nil _ _ _ _ _, by repeat (first | (with_reducible first | exact HB.out | apply below_alloc | apply pw_below_drewN | apply below_drew1 | refine below_set ?_ GE280.out | refine below_set ?_ GE286.out) | exact HB.out)⟩
                      · rw [if_neg c35] at H
                        have c35b0 : decide (x7_3 < (wrap64 (t285))) = false := decide_eq_false c35
                        clear c35
                        replace H := Option.bind_eq_some_iff.mp H
                        obtain ⟨⟨t292, t295⟩, A820, H⟩ := H
                        replace H : (if t295 = 0 then (if (strOfNums t292).toList = (strOfNums l0).toList then (some (((rd l0 0) == 1), x287001_3, x287002_3, x287003_3, 0)) else (some (false, ([] : List ByteArray), ([] : List ByteArray), ([] : List Int), 200))) else (some (false, ([] : List ByteArray), ([] : List ByteArray), ([] : List Int), 200))) = some (r1, r2, r3, r4, r5) := H
                        have A82 := Aside0.mk A820
                        clear A820
                        by_cases c83 : t295 = 0
                        · rw [if_pos c83] at H
                          have c83b0 : (t295 == 0) = true := beq_iff_eq.mpr c83
                          have c83b1 : (t295 != 0) = false := bne_eq_false_iff_eq.mpr c83
                          clear c83
                          by_cases c84 : (strOfNums t292).toList = (strOfNums l0).toList
                          · rw [if_pos c84] at H
                            have c84b0 : ((strOfNums t292).toList == (strOfNums l0).toList) = true := beq_iff_eq.mpr c84
                            have c84b1 : ((strOfNums t292).toList != (strOfNums l0).toList) = false := bne_eq_false_iff_eq.mpr c84
                            clear c84
                            simp only [Option.some.injEq, Prod.mk.injEq] at H
                            obtain ⟨rfl, rfl, rfl, rfl, rfl⟩ := H
                            have hnb85 := NB286_280.out
                            have hnc85 := NB280_286.out
                            have hcz86_0 : wr.cell? ⟨gb286, 0, none⟩ = some (.bool ((rd l0 0) == 1)) := (blk_cell BK286.out 0).trans rfl
                            have hcz86_1 : wr.cell? ⟨gb286, 1, none⟩ = some (u287001) := (blk_cell BK286.out 1).trans rfl
                            have hcz86_2 : wr.cell? ⟨gb286, 2, none⟩ = some (u287002) := (blk_cell BK286.out 2).trans rfl
                            have hcz86_3 : wr.cell? ⟨gb286, 3, none⟩ = some (u287003) := (blk_cell BK286.out 3).trans rfl
                            have hfz86_0 := blk_frozen BK286.out 0
                            have hfz86_1 := blk_frozen BK286.out 1
                            have hfz86_2 := blk_frozen BK286.out 2
                            have hfz86_3 := blk_frozen BK286.out 3
                            obtain ⟨Ao87, co87, eo87⟩ := Kd.R_slice HO_287001.out
                            subst eo87
                            obtain ⟨Ao88, co88, eo88⟩ := Kd.R_slice HO_287002.out
                            subst eo88
                            obtain ⟨Ao89, co89, eo89⟩ := Kd.R_slice HO_287003.out
                            subst eo89
                            go_wp2_with (first | ((with_reducible refine gate_callee (f := 24) rfl ?_); refine goesL_ (some 113) rfl rfl Try.func24 (by kernel_rfl) rfl #[.agg #[.bool ((rd l0 0) == 1), .slice Ao87 x287001_3.length co87, .slice Ao88 x287002_3.length co88, .slice Ao89 x287003_3.length co89]] rfl (by (try simp only [List.map_toArray, List.map_cons, List.map_nil]); first | done | rfl | (simp only [List.length_drop, List.length_take]; rfl)) ?_; (with_reducible refine (aukletref22_Put.calls k3 ((rd l0 0) == 1) _ _ x287001_3 _ _ x287002_3 _ _ x287003_3 t292 t295 _ ?side1 ?side2 ?side3 ?side4 ?side5 ?side6 A82.out).mono ?_); (case side1 => repeat (first | exact (Kd.R_reads' HO_287001.out).2.2 | (with_reducible refine Kd.C_alloc ?_ _) | (with_reducible refine Kd.C_drewN ?_ _) | (with_reducible refine Kd.C_drew ?_))); (case side2 => exact (Kd.R_reads' HO_287001.out).2.1); (case side3 => repeat (first | exact (Kd.R_reads' HO_287002.out).2.2 | (with_reducible refine Kd.C_alloc ?_ _) | (with_reducible refine Kd.C_drewN ?_ _) | (with_reducible refine Kd.C_drew ?_))); (case side4 => exact (Kd.R_reads' HO_287002.out).2.1); (case side5 => repeat (first | exact (Kd.R_reads' HO_287003.out).2.2 | (with_reducible refine Kd.C_alloc ?_ _) | (with_reducible refine Kd.C_drewN ?_ _) | (with_reducible refine Kd.C_drew ?_))); (case side6 => exact (Kd.R_reads' HO_287003.out).2.1); rintro e w90 ⟨v293, rfl, ho0, hb⟩; refine ⟨_, rfl, ?_⟩; have n0_ := Aside0.mk (Kd.R_below (by (with_reducible repeat (first | apply Kd.R_alloc | apply Kd.R_drewN | apply Kd.R_drew)); exact HO_287001.out) hb); have n1_ := Aside0.mk (Kd.R_below (by (with_reducible repeat (first | apply Kd.R_alloc | apply Kd.R_drewN | apply Kd.R_drew)); exact HO_287002.out) hb); have n2_ := Aside0.mk (Kd.R_below (by (with_reducible repeat (first | apply Kd.R_alloc | apply Kd.R_drewN | apply Kd.R_drew)); exact HO_287003.out) hb); have n3_ := Aside0.mk (Kd.R_lower ho0 (below_size (by repeat (first | (with_reducible first | exact HB.out | apply below_alloc | apply pw_below_drewN | apply below_drew1 | refine below_set ?_ GE280.out | refine below_set ?_ GE286.out) | exact HB.out)))); have n4_ := Aside0.mk (blk_below (g := gb280) (o := .cells #[.bool x281000_3, .slice none 0 0, .slice none 0 0, .slice none 0 0] 25 (0, 0)) (by (with_reducible repeat (first | refine blk_drewN ?_ _ | refine blk_drew ?_ | refine blk_alloc ?_ _)); exact BK280.out) hb); have n5_ := Aside0.mk (blk_below (g := gb286) (o := .cells #[.bool ((rd l0 0) == 1), .slice Ao87 x287001_3.length co87, .slice Ao88 x287002_3.length co88, .slice Ao89 x287003_3.length co89] 25 (0, 0)) (by (with_reducible repeat (first | refine blk_drewN ?_ _ | refine blk_drew ?_ | refine blk_alloc ?_ _)); exact BK286.out) hb); have n6_ := Aside0.mk (below_step (by repeat (first | (with_reducible first | exact HB.out | apply below_alloc | apply pw_below_drewN | apply below_drew1 | refine below_set ?_ GE280.out | refine below_set ?_ GE286.out) | exact HB.out)) hb); clear HO_287001; clear HO_287002; clear HO_287003; clear BK280; clear BK286; clear HB; have HO_287001 := n0_; have HO_287002 := n1_; have HO_287003 := n2_; have HO294 := n3_; have BK280 := n4_; have BK286 := n5_; have HB := n6_; clear n0_ n1_ n2_ n3_ n4_ n5_ n6_; (try clear hb); (try clear hb2); (try clear hk); (try clear hi); (try clear ho0); have hcv91 := own_string (P := Try.prog) Try.underlying31 Try.underlying5 Try.underlying9 (Kd.own_of_R HO294.out); have hcv92 := Kd.C_string (P := Try.prog) (A := (some ad283)) (c := c0) Try.underlying31 Try.underlying5 Try.underlying9 (Kd.C_below HR0.out HB.out); have hcz93_0 : w90.cell? ⟨gb286, 0, none⟩ = some (.bool ((rd l0 0) == 1)) := (blk_cell BK286.out 0).trans rfl; have hcz93_1 : w90.cell? ⟨gb286, 1, none⟩ = some (.slice Ao87 x287001_3.length co87) := (blk_cell BK286.out 1).trans rfl; have hcz93_2 : w90.cell? ⟨gb286, 2, none⟩ = some (.slice Ao88 x287002_3.length co88) := (blk_cell BK286.out 2).trans rfl; have hcz93_3 : w90.cell? ⟨gb286, 3, none⟩ = some (.slice Ao89 x287003_3.length co89) := (blk_cell BK286.out 3).trans rfl; have hfz93_0 := blk_frozen BK286.out 0; have hfz93_1 := blk_frozen BK286.out 1; have hfz93_2 := blk_frozen BK286.out 2; have hfz93_3 := blk_frozen BK286.out 3; have hcz94_0 : w90.cell? ⟨gb280, 0, none⟩ = some (.bool x281000_3) := (blk_cell BK280.out 0).trans rfl; have hcz94_1 : w90.cell? ⟨gb280, 1, none⟩ = some (.slice none 0 0) := (blk_cell BK280.out 1).trans rfl; have hcz94_2 : w90.cell? ⟨gb280, 2, none⟩ = some (.slice none 0 0) := (blk_cell BK280.out 2).trans rfl; have hcz94_3 : w90.cell? ⟨gb280, 3, none⟩ = some (.slice none 0 0) := (blk_cell BK280.out 3).trans rfl; have hfz94_0 := blk_frozen BK280.out 0; have hfz94_1 := blk_frozen BK280.out 1; have hfz94_2 := blk_frozen BK280.out 2; have hfz94_3 := blk_frozen BK280.out 3))
                            refine bodyPost_ret (results_ct rfl _ _ gb280 25 #[.bool ((rd l0 0) == 1), .slice Ao87 x287001_3.length co87, .slice Ao88 x287002_3.length co88, .slice Ao89 x287003_3.length co89] (0, 0) _ rfl (by (with_reducible repeat (first | refine blk_drewN ?_ _ | refine blk_drew ?_ | refine blk_alloc ?_ _)); refine blk_put (cs := #[.bool ((rd l0 0) == 1), .slice Ao87 x287001_3.length co87, .slice Ao88 x287002_3.length co88, .slice none 0 0]) ?_ 3 _ rfl; (with_reducible repeat (first | refine blk_drewN ?_ _ | refine blk_drew ?_ | refine blk_alloc ?_ _)); refine blk_put (cs := #[.bool ((rd l0 0) == 1), .slice Ao87 x287001_3.length co87, .slice none 0 0, .slice none 0 0]) ?_ 2 _ rfl; (with_reducible repeat (first | refine blk_drewN ?_ _ | refine blk_drew ?_ | refine blk_alloc ?_ _)); refine blk_put (cs := #[.bool ((rd l0 0) == 1), .slice none 0 0, .slice none 0 0, .slice none 0 0]) ?_ 1 _ rfl; (with_reducible repeat (first | refine blk_drewN ?_ _ | refine blk_drew ?_ | refine blk_alloc ?_ _)); refine blk_put (cs := #[.bool x281000_3, .slice none 0 0, .slice none 0 0, .slice none 0 0]) ?_ 0 _ rfl; (with_reducible repeat (first | refine blk_drewN ?_ _ | refine blk_drew ?_ | refine blk_alloc ?_ _)); exact BK280.out) Try.underlying25 rfl (by kernel_rfl)) rfl ?_
                            exact ⟨_, _, _, by first | rfl | (simp [errW_none, errW_some] <;> rfl) | (simp [*, errW_none, errW_some] <;> rfl), by (with_reducible repeat (first | apply Kd.R_alloc | apply Kd.R_drewN | apply Kd.R_drew)); exact Kd.R_mono (Kd.R_far (p := ⟨gb280, 3, none⟩) (Kd.R_far (p := ⟨gb280, 2, none⟩) (Kd.R_far (p := ⟨gb280, 1, none⟩) (Kd.R_far (p := ⟨gb280, 0, none⟩) (Kd.R_types HO_287001.out BK280.out (by decide)) (fun _ hk => hk.2) (.bool ((rd l0 0) == 1))) (fun _ hk => hk.2) (.slice Ao87 x287001_3.length co87)) (fun _ hk => hk.2) (.slice Ao88 x287002_3.length co88)) (fun _ hk => hk.2) (.slice Ao89 x287003_3.length co89)) (fun _ hk => hk.1), by (with_reducible repeat (first | apply Kd.R_alloc | apply Kd.R_drewN | apply Kd.R_drew)); exact Kd.R_mono (Kd.R_far (p := ⟨gb280, 3, none⟩) (Kd.R_far (p := ⟨gb280, 2, none⟩) (Kd.R_far (p := ⟨gb280, 1, none⟩) (Kd.R_far (p := ⟨gb280, 0, none⟩) (Kd.R_types HO_287002.out BK280.out (by decide)) (fun _ hk => hk.2) (.bool ((rd l0 0) == 1))) (fun _ hk => hk.2) (.slice Ao87 x287001_3.length co87)) (fun _ hk => hk.2) (.slice Ao88 x287002_3.length co88)) (fun _ hk => hk.2) (.slice Ao89 x287003_3.length co89)) (fun _ hk => hk.1), by (with_reducible repeat (first | apply Kd.R_alloc | apply Kd.R_drewN | apply Kd.R_drew)); exact Kd.R_mono (Kd.R_far (p := ⟨gb280, 3, none⟩) (Kd.R_far (p := ⟨gb280, 2, none⟩) (Kd.R_far (p := ⟨gb280, 1, none⟩) (Kd.R_far (p := ⟨gb280, 0, none⟩) (Kd.R_types HO_287003.out BK280.out (by decide)) (fun _ hk => hk.2) (.bool ((rd l0 0) == 1))) (fun _ hk => hk.2) (.slice Ao87 x287001_3.length co87)) (fun _ hk => hk.2) (.slice Ao88 x287002_3.length co88)) (fun _ hk => hk.2) (.slice Ao89 x287003_3.length co89)) (fun _ hk => trivial), by repeat (first | (with_reducible first | exact HB.out | apply below_alloc | apply pw_below_drewN | apply below_drew1 | refine below_set ?_ GE280.out | refine below_set ?_ GE286.out) | exact HB.out)⟩
                          · rw [if_neg c84] at H
                            have c84b0 : ((strOfNums t292).toList == (strOfNums l0).toList) = false := beq_eq_false_iff_ne.mpr c84
                            have c84b1 : ((strOfNums t292).toList != (strOfNums l0).toList) = true := bne_iff_ne.mpr c84
                            simp only [Option.some.injEq, Prod.mk.injEq] at H
                            obtain ⟨rfl, rfl, rfl, rfl, rfl⟩ := H
                            have hnb95 := NB286_280.out
                            have hnc95 := NB280_286.out
                            have hcz96_0 : wr.cell? ⟨gb286, 0, none⟩ = some (.bool ((rd l0 0) == 1)) := (blk_cell BK286.out 0).trans rfl
                            have hcz96_1 : wr.cell? ⟨gb286, 1, none⟩ = some (u287001) := (blk_cell BK286.out 1).trans rfl
                            have hcz96_2 : wr.cell? ⟨gb286, 2, none⟩ = some (u287002) := (blk_cell BK286.out 2).trans rfl
                            have hcz96_3 : wr.cell? ⟨gb286, 3, none⟩ = some (u287003) := (blk_cell BK286.out 3).trans rfl
                            have hfz96_0 := blk_frozen BK286.out 0
                            have hfz96_1 := blk_frozen BK286.out 1
                            have hfz96_2 := blk_frozen BK286.out 2
                            have hfz96_3 := blk_frozen BK286.out 3
                            obtain ⟨Ao97, co97, eo97⟩ := Kd.R_slice HO_287001.out
                            subst eo97
                            obtain ⟨Ao98, co98, eo98⟩ := Kd.R_slice HO_287002.out
                            subst eo98
                            obtain ⟨Ao99, co99, eo99⟩ := Kd.R_slice HO_287003.out
                            subst eo99
                            go_wp2_with (first | ((with_reducible refine gate_callee (f := 24) rfl ?_); refine goesL_ (some 113) rfl rfl Try.func24 (by kernel_rfl) rfl #[.agg #[.bool ((rd l0 0) == 1), .slice Ao97 x287001_3.length co97, .slice Ao98 x287002_3.length co98, .slice Ao99 x287003_3.length co99]] rfl (by (try simp only [List.map_toArray, List.map_cons, List.map_nil]); first | done | rfl | (simp only [List.length_drop, List.length_take]; rfl)) ?_; (with_reducible refine (aukletref22_Put.calls k3 ((rd l0 0) == 1) _ _ x287001_3 _ _ x287002_3 _ _ x287003_3 t292 t295 _ ?side1 ?side2 ?side3 ?side4 ?side5 ?side6 A82.out).mono ?_); (case side1 => repeat (first | exact (Kd.R_reads' HO_287001.out).2.2 | (with_reducible refine Kd.C_alloc ?_ _) | (with_reducible refine Kd.C_drewN ?_ _) | (with_reducible refine Kd.C_drew ?_))); (case side2 => exact (Kd.R_reads' HO_287001.out).2.1); (case side3 => repeat (first | exact (Kd.R_reads' HO_287002.out).2.2 | (with_reducible refine Kd.C_alloc ?_ _) | (with_reducible refine Kd.C_drewN ?_ _) | (with_reducible refine Kd.C_drew ?_))); (case side4 => exact (Kd.R_reads' HO_287002.out).2.1); (case side5 => repeat (first | exact (Kd.R_reads' HO_287003.out).2.2 | (with_reducible refine Kd.C_alloc ?_ _) | (with_reducible refine Kd.C_drewN ?_ _) | (with_reducible refine Kd.C_drew ?_))); (case side6 => exact (Kd.R_reads' HO_287003.out).2.1); rintro e w100 ⟨v293, rfl, ho0, hb⟩; refine ⟨_, rfl, ?_⟩; have n0_ := Aside0.mk (Kd.R_below (by (with_reducible repeat (first | apply Kd.R_alloc | apply Kd.R_drewN | apply Kd.R_drew)); exact HO_287001.out) hb); have n1_ := Aside0.mk (Kd.R_below (by (with_reducible repeat (first | apply Kd.R_alloc | apply Kd.R_drewN | apply Kd.R_drew)); exact HO_287002.out) hb); have n2_ := Aside0.mk (Kd.R_below (by (with_reducible repeat (first | apply Kd.R_alloc | apply Kd.R_drewN | apply Kd.R_drew)); exact HO_287003.out) hb); have n3_ := Aside0.mk (Kd.R_lower ho0 (below_size (by repeat (first | (with_reducible first | exact HB.out | apply below_alloc | apply pw_below_drewN | apply below_drew1 | refine below_set ?_ GE280.out | refine below_set ?_ GE286.out) | exact HB.out)))); have n4_ := Aside0.mk (blk_below (g := gb280) (o := .cells #[.bool x281000_3, .slice none 0 0, .slice none 0 0, .slice none 0 0] 25 (0, 0)) (by (with_reducible repeat (first | refine blk_drewN ?_ _ | refine blk_drew ?_ | refine blk_alloc ?_ _)); exact BK280.out) hb); have n5_ := Aside0.mk (blk_below (g := gb286) (o := .cells #[.bool ((rd l0 0) == 1), .slice Ao97 x287001_3.length co97, .slice Ao98 x287002_3.length co98, .slice Ao99 x287003_3.length co99] 25 (0, 0)) (by (with_reducible repeat (first | refine blk_drewN ?_ _ | refine blk_drew ?_ | refine blk_alloc ?_ _)); exact BK286.out) hb); have n6_ := Aside0.mk (below_step (by repeat (first | (with_reducible first | exact HB.out | apply below_alloc | apply pw_below_drewN | apply below_drew1 | refine below_set ?_ GE280.out | refine below_set ?_ GE286.out) | exact HB.out)) hb); clear HO_287001; clear HO_287002; clear HO_287003; clear BK280; clear BK286; clear HB; have HO_287001 := n0_; have HO_287002 := n1_; have HO_287003 := n2_; have HO294 := n3_; have BK280 := n4_; have BK286 := n5_; have HB := n6_; clear n0_ n1_ n2_ n3_ n4_ n5_ n6_; (try clear hb); (try clear hb2); (try clear hk); (try clear hi); (try clear ho0); have hcv101 := own_string (P := Try.prog) Try.underlying31 Try.underlying5 Try.underlying9 (Kd.own_of_R HO294.out); have hcv102 := Kd.C_string (P := Try.prog) (A := (some ad283)) (c := c0) Try.underlying31 Try.underlying5 Try.underlying9 (Kd.C_below HR0.out HB.out); have hcz103_0 : w100.cell? ⟨gb280, 0, none⟩ = some (.bool x281000_3) := (blk_cell BK280.out 0).trans rfl; have hcz103_1 : w100.cell? ⟨gb280, 1, none⟩ = some (.slice none 0 0) := (blk_cell BK280.out 1).trans rfl; have hcz103_2 : w100.cell? ⟨gb280, 2, none⟩ = some (.slice none 0 0) := (blk_cell BK280.out 2).trans rfl; have hcz103_3 : w100.cell? ⟨gb280, 3, none⟩ = some (.slice none 0 0) := (blk_cell BK280.out 3).trans rfl; have hfz103_0 := blk_frozen BK280.out 0; have hfz103_1 := blk_frozen BK280.out 1; have hfz103_2 := blk_frozen BK280.out 2; have hfz103_3 := blk_frozen BK280.out 3))
                            refine bodyPost_ret (results_ct rfl _ _ gb280 25 #[.bool false, .slice none 0 0, .slice none 0 0, .slice none 0 0] (0, 0) _ rfl (by (with_reducible repeat (first | refine blk_drewN ?_ _ | refine blk_drew ?_ | refine blk_alloc ?_ _)); refine blk_put (cs := #[.bool false, .slice none 0 0, .slice none 0 0, .slice none 0 0]) ?_ 3 _ rfl; (with_reducible repeat (first | refine blk_drewN ?_ _ | refine blk_drew ?_ | refine blk_alloc ?_ _)); refine blk_put (cs := #[.bool false, .slice none 0 0, .slice none 0 0, .slice none 0 0]) ?_ 2 _ rfl; (with_reducible repeat (first | refine blk_drewN ?_ _ | refine blk_drew ?_ | refine blk_alloc ?_ _)); refine blk_put (cs := #[.bool false, .slice none 0 0, .slice none 0 0, .slice none 0 0]) ?_ 1 _ rfl; (with_reducible repeat (first | refine blk_drewN ?_ _ | refine blk_drew ?_ | refine blk_alloc ?_ _)); refine blk_put (cs := #[.bool x281000_3, .slice none 0 0, .slice none 0 0, .slice none 0 0]) ?_ 0 _ rfl; (with_reducible repeat (first | refine blk_drewN ?_ _ | refine blk_drew ?_ | refine blk_alloc ?_ _)); exact BK280.out) Try.underlying25 rfl (by kernel_rfl)) rfl ?_
                            exact ⟨_, _, _, by first | rfl | (simp [errW_none, errW_some] <;> rfl) | (simp [*, errW_none, errW_some] <;> rfl), by first | exact Kd.R_nil _ _ _ _ _ | exact Kd.N_nil _ _ _ _ _ | exact Kd.V_nil _ _ _ _ _ | exact Kd.Q_nil _ _ _ _ _ | exact Kd.S_nil _ _ _ _ _, by first | exact Kd.R_nil _ _ _ _ _ | exact Kd.N_nil _ _ _ _ _ | exact Kd.V_nil _ _ _ _ _ | exact Kd.Q_nil _ _ _ _ _ | exact Kd.S_nil _ _ _ _ _, by first | exact Kd.R_nil _ _ _ _ _ | exact Kd.N_nil _ _ _ _ _ | exact Kd.V_nil _ _ _ _ _ | exact Kd.Q_nil _ _ _ _ _ | exact Kd.S_nil _ _ _ _ _, by repeat (first | (with_reducible first | exact HB.out | apply below_alloc | apply pw_below_drewN | apply below_drew1 | refine below_set ?_ GE280.out | refine below_set ?_ GE286.out) | exact HB.out)⟩
                        · rw [if_neg c83] at H
                          have c83b0 : (t295 == 0) = false := beq_eq_false_iff_ne.mpr c83
                          have c83b1 : (t295 != 0) = true := bne_iff_ne.mpr c83
                          simp only [Option.some.injEq, Prod.mk.injEq] at H
                          obtain ⟨rfl, rfl, rfl, rfl, rfl⟩ := H
                          have hnb104 := NB286_280.out
                          have hnc104 := NB280_286.out
                          have hcz105_0 : wr.cell? ⟨gb286, 0, none⟩ = some (.bool ((rd l0 0) == 1)) := (blk_cell BK286.out 0).trans rfl
                          have hcz105_1 : wr.cell? ⟨gb286, 1, none⟩ = some (u287001) := (blk_cell BK286.out 1).trans rfl
                          have hcz105_2 : wr.cell? ⟨gb286, 2, none⟩ = some (u287002) := (blk_cell BK286.out 2).trans rfl
                          have hcz105_3 : wr.cell? ⟨gb286, 3, none⟩ = some (u287003) := (blk_cell BK286.out 3).trans rfl
                          have hfz105_0 := blk_frozen BK286.out 0
                          have hfz105_1 := blk_frozen BK286.out 1
                          have hfz105_2 := blk_frozen BK286.out 2
                          have hfz105_3 := blk_frozen BK286.out 3
                          obtain ⟨Ao106, co106, eo106⟩ := Kd.R_slice HO_287001.out
                          subst eo106
                          obtain ⟨Ao107, co107, eo107⟩ := Kd.R_slice HO_287002.out
                          subst eo107
                          obtain ⟨Ao108, co108, eo108⟩ := Kd.R_slice HO_287003.out
                          subst eo108
                          go_wp2_with (first | ((with_reducible refine gate_callee (f := 24) rfl ?_); refine goesL_ (some 113) rfl rfl Try.func24 (by kernel_rfl) rfl #[.agg #[.bool ((rd l0 0) == 1), .slice Ao106 x287001_3.length co106, .slice Ao107 x287002_3.length co107, .slice Ao108 x287003_3.length co108]] rfl (by (try simp only [List.map_toArray, List.map_cons, List.map_nil]); first | done | rfl | (simp only [List.length_drop, List.length_take]; rfl)) ?_; (with_reducible refine (aukletref22_Put.calls k3 ((rd l0 0) == 1) _ _ x287001_3 _ _ x287002_3 _ _ x287003_3 t292 t295 _ ?side1 ?side2 ?side3 ?side4 ?side5 ?side6 A82.out).mono ?_); (case side1 => repeat (first | exact (Kd.R_reads' HO_287001.out).2.2 | (with_reducible refine Kd.C_alloc ?_ _) | (with_reducible refine Kd.C_drewN ?_ _) | (with_reducible refine Kd.C_drew ?_))); (case side2 => exact (Kd.R_reads' HO_287001.out).2.1); (case side3 => repeat (first | exact (Kd.R_reads' HO_287002.out).2.2 | (with_reducible refine Kd.C_alloc ?_ _) | (with_reducible refine Kd.C_drewN ?_ _) | (with_reducible refine Kd.C_drew ?_))); (case side4 => exact (Kd.R_reads' HO_287002.out).2.1); (case side5 => repeat (first | exact (Kd.R_reads' HO_287003.out).2.2 | (with_reducible refine Kd.C_alloc ?_ _) | (with_reducible refine Kd.C_drewN ?_ _) | (with_reducible refine Kd.C_drew ?_))); (case side6 => exact (Kd.R_reads' HO_287003.out).2.1); rintro e w109 ⟨v293, rfl, ho0, hb⟩; refine ⟨_, rfl, ?_⟩; have n0_ := Aside0.mk (Kd.R_below (by (with_reducible repeat (first | apply Kd.R_alloc | apply Kd.R_drewN | apply Kd.R_drew)); exact HO_287001.out) hb); have n1_ := Aside0.mk (Kd.R_below (by (with_reducible repeat (first | apply Kd.R_alloc | apply Kd.R_drewN | apply Kd.R_drew)); exact HO_287002.out) hb); have n2_ := Aside0.mk (Kd.R_below (by (with_reducible repeat (first | apply Kd.R_alloc | apply Kd.R_drewN | apply Kd.R_drew)); exact HO_287003.out) hb); have n3_ := Aside0.mk (Kd.R_lower ho0 (below_size (by repeat (first | (with_reducible first | exact HB.out | apply below_alloc | apply pw_below_drewN | apply below_drew1 | refine below_set ?_ GE280.out | refine below_set ?_ GE286.out) | exact HB.out)))); have n4_ := Aside0.mk (blk_below (g := gb280) (o := .cells #[.bool x281000_3, .slice none 0 0, .slice none 0 0, .slice none 0 0] 25 (0, 0)) (by (with_reducible repeat (first | refine blk_drewN ?_ _ | refine blk_drew ?_ | refine blk_alloc ?_ _)); exact BK280.out) hb); have n5_ := Aside0.mk (blk_below (g := gb286) (o := .cells #[.bool ((rd l0 0) == 1), .slice Ao106 x287001_3.length co106, .slice Ao107 x287002_3.length co107, .slice Ao108 x287003_3.length co108] 25 (0, 0)) (by (with_reducible repeat (first | refine blk_drewN ?_ _ | refine blk_drew ?_ | refine blk_alloc ?_ _)); exact BK286.out) hb); have n6_ := Aside0.mk (below_step (by repeat (first | (with_reducible first | exact HB.out | apply below_alloc | apply pw_below_drewN | apply below_drew1 | refine below_set ?_ GE280.out | refine below_set ?_ GE286.out) | exact HB.out)) hb); clear HO_287001; clear HO_287002; clear HO_287003; clear BK280; clear BK286; clear HB; have HO_287001 := n0_; have HO_287002 := n1_; have HO_287003 := n2_; have HO294 := n3_; have BK280 := n4_; have BK286 := n5_; have HB := n6_; clear n0_ n1_ n2_ n3_ n4_ n5_ n6_; (try clear hb); (try clear hb2); (try clear hk); (try clear hi); (try clear ho0); have hcz110_0 : w109.cell? ⟨gb280, 0, none⟩ = some (.bool x281000_3) := (blk_cell BK280.out 0).trans rfl; have hcz110_1 : w109.cell? ⟨gb280, 1, none⟩ = some (.slice none 0 0) := (blk_cell BK280.out 1).trans rfl; have hcz110_2 : w109.cell? ⟨gb280, 2, none⟩ = some (.slice none 0 0) := (blk_cell BK280.out 2).trans rfl; have hcz110_3 : w109.cell? ⟨gb280, 3, none⟩ = some (.slice none 0 0) := (blk_cell BK280.out 3).trans rfl; have hfz110_0 := blk_frozen BK280.out 0; have hfz110_1 := blk_frozen BK280.out 1; have hfz110_2 := blk_frozen BK280.out 2; have hfz110_3 := blk_frozen BK280.out 3))
                          refine bodyPost_ret (results_ct rfl _ _ gb280 25 #[.bool false, .slice none 0 0, .slice none 0 0, .slice none 0 0] (0, 0) _ rfl (by (with_reducible repeat (first | refine blk_drewN ?_ _ | refine blk_drew ?_ | refine blk_alloc ?_ _)); refine blk_put (cs := #[.bool false, .slice none 0 0, .slice none 0 0, .slice none 0 0]) ?_ 3 _ rfl; (with_reducible repeat (first | refine blk_drewN ?_ _ | refine blk_drew ?_ | refine blk_alloc ?_ _)); refine blk_put (cs := #[.bool false, .slice none 0 0, .slice none 0 0, .slice none 0 0]) ?_ 2 _ rfl; (with_reducible repeat (first | refine blk_drewN ?_ _ | refine blk_drew ?_ | refine blk_alloc ?_ _)); refine blk_put (cs := #[.bool false, .slice none 0 0, .slice none 0 0, .slice none 0 0]) ?_ 1 _ rfl; (with_reducible repeat (first | refine blk_drewN ?_ _ | refine blk_drew ?_ | refine blk_alloc ?_ _)); refine blk_put (cs := #[.bool x281000_3, .slice none 0 0, .slice none 0 0, .slice none 0 0]) ?_ 0 _ rfl; (with_reducible repeat (first | refine blk_drewN ?_ _ | refine blk_drew ?_ | refine blk_alloc ?_ _)); exact BK280.out) Try.underlying25 rfl (by kernel_rfl)) rfl ?_
                          exact ⟨_, _, _, by first | rfl | (simp [errW_none, errW_some] <;> rfl) | (simp [*, errW_none, errW_some] <;> rfl), by first | exact Kd.R_nil _ _ _ _ _ | exact Kd.N_nil _ _ _ _ _ | exact Kd.V_nil _ _ _ _ _ | exact Kd.Q_nil _ _ _ _ _ | exact Kd.S_nil _ _ _ _ _, by first | exact Kd.R_nil _ _ _ _ _ | exact Kd.N_nil _ _ _ _ _ | exact Kd.V_nil _ _ _ _ _ | exact Kd.Q_nil _ _ _ _ _ | exact Kd.S_nil _ _ _ _ _, by first | exact Kd.R_nil _ _ _ _ _ | exact Kd.N_nil _ _ _ _ _ | exact Kd.V_nil _ _ _ _ _ | exact Kd.Q_nil _ _ _ _ _ | exact Kd.S_nil _ _ _ _ _, by repeat (first | (with_reducible first | exact HB.out | apply below_alloc | apply pw_below_drewN | apply below_drew1 | refine below_set ?_ GE280.out | refine below_set ?_ GE286.out) | exact HB.out)⟩
            · rw [if_neg c11] at H
              exact absurd H (by simp)
          · rw [if_neg c10] at H
            exact absurd H (by simp)
        · rw [if_neg c9] at H
          exact absurd H (by simp)

end Go.Proofs.Ytbpnkgaomobpkaa.PNxu
