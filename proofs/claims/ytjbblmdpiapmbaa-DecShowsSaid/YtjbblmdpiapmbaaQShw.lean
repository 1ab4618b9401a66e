/- Some of the functions that a law uses; printed by gprint.py, put together by slice.py. -/
import Derived.Test.YtjbblmdpiapmbaaPDecx0
import Derived.Test.YtjbblmdpiapmbaaPDecx2
namespace Go.Proofs.Ytjbblmdpiapmbaa.PDec
open Go.Proofs.Ytjbblmdpiapmbaa.Giv Go.Proofs.Ytjbblmdpiapmbaa.PDecB Go.Proofs.Ytjbblmdpiapmbaa.Fld
open Go.RowKit Go.Proofs.YtjbblmdpiapmbaaW.PrintWords Go.Proofs.YtjbblmdpiapmbaaW.PrintLast Go.Proofs.YtjbblmdpiapmbaaW.PrintMore
attribute [local go_sem] max2_int min2_int max_two min_two max_three min_three max_four min_four   -- for this text's walks alone
set_option linter.unusedVariables false
set_option linter.unusedSimpArgs false


/-! ### aukletref01_Show: function 17 -/
mutual
def aukletref01_Show.l0 : Nat → ByteArray → List Int → Bool → List Int → Option (ByteArray)
  | 0, _, _, _, _ => none
  | k + 1, x4, x5, x406000, x406001 => if (x5.length : Int) < 7 then (if x5.length < 17592186044416 then (aukletref01_Show.l0 k x4 (x5 ++ [0]) x406000 x406001) else (none)) else (aukletref01_Show.l1 k x4 x5 0 x406000 x406001)
def aukletref01_Show.l1 : Nat → ByteArray → List Int → Int → Bool → List Int → Option (ByteArray)
  | 0, _, _, _, _, _ => none
  | k + 1, x4, x5, x6, x406000, x406001 => if x6 < (x5.length : Int) then (if x6 = 6 then (aukletref01_Show.j2 k x4 x5 x6 (x4.toList != ([] : List UInt8)) x406000 x406001) else (aukletref01_Show.j2 k x4 x5 x6 false x406000 x406001)) else (if x406000 = true then (if 1 + x4.size ≤ 9223372036854775807 then (some ((⟨#[45]⟩ : ByteArray) ++ x4)) else (none)) else (some x4))
def aukletref01_Show.j2 : Nat → ByteArray → List Int → Int → Bool → Bool → List Int → Option (ByteArray)
  | 0, _, _, _, _, _, _ => none
  | k + 1, x4, x5, x6, x30, x406000, x406001 => if x30 = true then (if 1 + x4.size ≤ 9223372036854775807 then (if x6 ≥ 6 then (if 0 ≤ x6 then (if x6 < (x5.length : Int) then ((some (([(48 + ((rd x5 x6) % 256)) % 256] : List Int) : List Int)).bind fun y416 => (if (strOfNums y416).size + ((⟨#[46]⟩ : ByteArray) ++ x4).size ≤ 9223372036854775807 then (aukletref01_Show.l1 k ((strOfNums y416) ++ ((⟨#[46]⟩ : ByteArray) ++ x4)) x5 (wrap64 (x6 + 1)) x406000 x406001) else (none))) else (none)) else (none)) else (if ((⟨#[46]⟩ : ByteArray) ++ x4).toList = ([] : List UInt8) then (if 0 ≤ x6 then (if x6 < (x5.length : Int) then (if (rd x5 x6) > 0 then ((some (([(48 + ((rd x5 x6) % 256)) % 256] : List Int) : List Int)).bind fun y421 => (if (strOfNums y421).size + ((⟨#[46]⟩ : ByteArray) ++ x4).size ≤ 9223372036854775807 then (aukletref01_Show.l1 k ((strOfNums y421) ++ ((⟨#[46]⟩ : ByteArray) ++ x4)) x5 (wrap64 (x6 + 1)) x406000 x406001) else (none))) else (aukletref01_Show.l1 k ((⟨#[46]⟩ : ByteArray) ++ x4) x5 (wrap64 (x6 + 1)) x406000 x406001)) else (none)) else (none)) else (if 0 ≤ x6 then (if x6 < (x5.length : Int) then ((some (([(48 + ((rd x5 x6) % 256)) % 256] : List Int) : List Int)).bind fun y425 => (if (strOfNums y425).size + ((⟨#[46]⟩ : ByteArray) ++ x4).size ≤ 9223372036854775807 then (aukletref01_Show.l1 k ((strOfNums y425) ++ ((⟨#[46]⟩ : ByteArray) ++ x4)) x5 (wrap64 (x6 + 1)) x406000 x406001) else (none))) else (none)) else (none)))) else (none)) else (if x6 ≥ 6 then (if 0 ≤ x6 then (if x6 < (x5.length : Int) then ((some (([(48 + ((rd x5 x6) % 256)) % 256] : List Int) : List Int)).bind fun y429 => (if (strOfNums y429).size + x4.size ≤ 9223372036854775807 then (aukletref01_Show.l1 k ((strOfNums y429) ++ x4) x5 (wrap64 (x6 + 1)) x406000 x406001) else (none))) else (none)) else (none)) else (if x4.toList = ([] : List UInt8) then (if 0 ≤ x6 then (if x6 < (x5.length : Int) then (if (rd x5 x6) > 0 then ((some (([(48 + ((rd x5 x6) % 256)) % 256] : List Int) : List Int)).bind fun y434 => (if (strOfNums y434).size + x4.size ≤ 9223372036854775807 then (aukletref01_Show.l1 k ((strOfNums y434) ++ x4) x5 (wrap64 (x6 + 1)) x406000 x406001) else (none))) else (aukletref01_Show.l1 k x4 x5 (wrap64 (x6 + 1)) x406000 x406001)) else (none)) else (none)) else (if 0 ≤ x6 then (if x6 < (x5.length : Int) then ((some (([(48 + ((rd x5 x6) % 256)) % 256] : List Int) : List Int)).bind fun y438 => (if (strOfNums y438).size + x4.size ≤ 9223372036854775807 then (aukletref01_Show.l1 k ((strOfNums y438) ++ x4) x5 (wrap64 (x6 + 1)) x406000 x406001) else (none))) else (none)) else (none))))
end
def aukletref01_Show.f (k : Nat) (a0 : Int) : Option (ByteArray) := (aukletref01_Of.f k a0).bind fun bt401 => ((some (([] : List Int) : List Int)).bind fun y406 => (if y406.length + bt401.2.length < 17592186044416 then (aukletref01_Show.l0 k (⟨#[]⟩ : ByteArray) (y406 ++ bt401.2) bt401.1 bt401.2) else (none)))
theorem aukletref01_Show.mono_l : ∀ k, (∀ y0 y1 y2 y3, LeO (aukletref01_Show.l0 k y0 y1 y2 y3) (aukletref01_Show.l0 (k + 1) y0 y1 y2 y3)) ∧ (∀ y0 y1 y2 y3 y4, LeO (aukletref01_Show.l1 k y0 y1 y2 y3 y4) (aukletref01_Show.l1 (k + 1) y0 y1 y2 y3 y4)) ∧ (∀ y0 y1 y2 y3 y4 y5, LeO (aukletref01_Show.j2 k y0 y1 y2 y3 y4 y5) (aukletref01_Show.j2 (k + 1) y0 y1 y2 y3 y4 y5))
  | 0 => ⟨fun _ _ _ _ r h => by simp [aukletref01_Show.l0] at h, fun _ _ _ _ _ r h => by simp [aukletref01_Show.l1] at h, fun _ _ _ _ _ _ r h => by simp [aukletref01_Show.j2] at h⟩
  | k + 1 => by
    obtain ⟨ih0, ih1, ih2⟩ := aukletref01_Show.mono_l k
    refine ⟨?_, ?_, ?_⟩
    · intro y0 y1 y2 y3
      unfold aukletref01_Show.l0
      repeat' first
      | (with_reducible exact ih0 _ _ _ _)
      | (with_reducible exact ih1 _ _ _ _ _)
      | (with_reducible exact ih2 _ _ _ _ _ _)
      | (with_reducible exact aukletref01_Of.mono _ _)
      | (with_reducible exact LeO.refl _)
      | (with_reducible exact LeO.none _)
      | (with_reducible refine LeO.ite ?_ ?_)
      | (with_reducible refine LeO.bind ?_ (fun _ => ?_))
      | exact ih0 _ _ _ _
      | exact ih1 _ _ _ _ _
      | exact ih2 _ _ _ _ _ _
      | exact aukletref01_Of.mono _ _
      | exact LeO.none _
      | refine LeO.ite ?_ ?_
      | refine LeO.bind ?_ (fun _ => ?_)
    · intro y0 y1 y2 y3 y4
      unfold aukletref01_Show.l1
      repeat' first
      | (with_reducible exact ih0 _ _ _ _)
      | (with_reducible exact ih1 _ _ _ _ _)
      | (with_reducible exact ih2 _ _ _ _ _ _)
      | (with_reducible exact aukletref01_Of.mono _ _)
      | (with_reducible exact LeO.refl _)
      | (with_reducible exact LeO.none _)
      | (with_reducible refine LeO.ite ?_ ?_)
      | (with_reducible refine LeO.bind ?_ (fun _ => ?_))
      | exact ih0 _ _ _ _
      | exact ih1 _ _ _ _ _
      | exact ih2 _ _ _ _ _ _
      | exact aukletref01_Of.mono _ _
      | exact LeO.none _
      | refine LeO.ite ?_ ?_
      | refine LeO.bind ?_ (fun _ => ?_)
    · intro y0 y1 y2 y3 y4 y5
      unfold aukletref01_Show.j2
      repeat' first
      | (with_reducible exact ih0 _ _ _ _)
      | (with_reducible exact ih1 _ _ _ _ _)
      | (with_reducible exact ih2 _ _ _ _ _ _)
      | (with_reducible exact aukletref01_Of.mono _ _)
      | (with_reducible exact LeO.refl _)
      | (with_reducible exact LeO.none _)
      | (with_reducible refine LeO.ite ?_ ?_)
      | (with_reducible refine LeO.bind ?_ (fun _ => ?_))
      | exact ih0 _ _ _ _
      | exact ih1 _ _ _ _ _
      | exact ih2 _ _ _ _ _ _
      | exact aukletref01_Of.mono _ _
      | exact LeO.none _
      | refine LeO.ite ?_ ?_
      | refine LeO.bind ?_ (fun _ => ?_)
theorem aukletref01_Show.mono : ∀ a0 k, LeO (aukletref01_Show.f k a0) (aukletref01_Show.f (k + 1) a0) := by
  intro a0 k
  obtain ⟨ih0, ih1, ih2⟩ := aukletref01_Show.mono_l k
  unfold aukletref01_Show.f
  repeat' first
      | (with_reducible exact ih0 _ _ _ _)
      | (with_reducible exact ih1 _ _ _ _ _)
      | (with_reducible exact ih2 _ _ _ _ _ _)
      | (with_reducible exact aukletref01_Of.mono _ _)
      | (with_reducible exact LeO.refl _)
      | (with_reducible exact LeO.none _)
      | (with_reducible refine LeO.ite ?_ ?_)
      | (with_reducible refine LeO.bind ?_ (fun _ => ?_))
      | exact ih0 _ _ _ _
      | exact ih1 _ _ _ _ _
      | exact ih2 _ _ _ _ _ _
      | exact aukletref01_Of.mono _ _
      | exact LeO.none _
      | refine LeO.ite ?_ ?_
      | refine LeO.bind ?_ (fun _ => ?_)
set_option maxHeartbeats 8000000 in
set_option maxRecDepth 100000 in
theorem aukletref01_Show.calls (k : Nat) (a0 : Int) (r : ByteArray) (w : World) (h : aukletref01_Show.f k a0 = some r) :
    Calls Try.prog 17 #[.int .i64 a0] w fun e w' => e = .returned (.string r) ∧ Below w.heap.size w w' := by
  have hu40 := Try.underlying40
  have HB := Aside0.mk (Below.refl w.heap.size w)
  have H : ((aukletref01_Of.f k a0).bind fun bt401 => ((some (([] : List Int) : List Int)).bind fun y406 => (if y406.length + bt401.2.length < 17592186044416 then (aukletref01_Show.l0 k (⟨#[]⟩ : ByteArray) (y406 ++ bt401.2) bt401.1 bt401.2) else (none)))) = some r := h
  clear h
  replace H := Option.bind_eq_some_iff.mp H
  obtain ⟨⟨t401, t402⟩, A20, H⟩ := H
  replace H : ((some (([] : List Int) : List Int)).bind fun y406 => (if y406.length + t402.length < 17592186044416 then (aukletref01_Show.l0 k (⟨#[]⟩ : ByteArray) (y406 ++ t402) t401 t402) else (none))) = some r := H
  have A2 := Aside0.mk A20
  clear A20
  obtain ⟨y406, hy406⟩ : ∃ y_ : List Int, y_ = (([] : List Int)) := ⟨_, rfl⟩
  replace H : (if y406.length + t402.length < 17592186044416 then (aukletref01_Show.l0 k (⟨#[]⟩ : ByteArray) (y406 ++ t402) t401 t402) else (none)) = some r := by first | (rw [hy406]; with_reducible exact H) | (have H2_ := (Option.bind_some _ _).symm.trans H; rw [hy406]; with_reducible exact H2_) | (have H2_ := (Option.bind_some _ _).symm.trans H; with_reducible exact H2_) | with_reducible exact H | (rw [hy406]; exact H) | exact H
  have Ny406 := Aside0.mk hy406
  clear hy406
  by_cases c3 : y406.length + t402.length < 17592186044416
  · rw [if_pos c3] at H
    have LMc3 := Aside0.mk c3
    clear c3
    obtain ⟨y409, hy409⟩ : ∃ y_ : List Int, y_ = (y406 ++ t402) := ⟨_, rfl⟩
    replace H : (aukletref01_Show.l0 k (⟨#[]⟩ : ByteArray) y409 t401 t402) = some r := by first | (rw [hy409]; with_reducible exact H) | (have H2_ := (Option.bind_some _ _).symm.trans H; rw [hy409]; with_reducible exact H2_) | (have H2_ := (Option.bind_some _ _).symm.trans H; with_reducible exact H2_) | with_reducible exact H | (rw [hy409]; exact H) | exact H
    have Ny409 := Aside0.mk hy409
    clear hy409
    have H' := Aside0.mk H
    clear H
    go_enter Try.func17, Try.ntmps17
    go_wp2_with (first | ((with_reducible refine gate_callee (f := 36) rfl ?_); refine goesL_ (some 8) rfl rfl Try.func36 (by kernel_rfl) rfl #[.int .i64 a0] rfl (by (try simp only [List.map_toArray, List.map_cons, List.map_nil]); first | done | rfl | (simp only [List.length_drop, List.length_take]; rfl)) ?_; (with_reducible refine (aukletref01_Of.calls k a0 t401 t402 _ A2.out).mono ?_); rintro e w4 ⟨v403, rfl, ho0, hb⟩; refine ⟨_, rfl, ?_⟩; have n0_ := Aside0.mk (Kd.R_lower ho0 (below_size (by repeat (first | (with_reducible first | exact HB.out | apply below_alloc | apply pw_below_drewN | apply below_drew1) | exact HB.out)))); have n1_ := Aside0.mk (below_step (by repeat (first | (with_reducible first | exact HB.out | apply below_alloc | apply pw_below_drewN | apply below_drew1) | exact HB.out)) hb); clear HB; have HO404 := n0_; have HB := n1_; clear n0_ n1_; (try clear hb); (try clear hb2); (try clear hk); (try clear hi); (try clear ho0)) | ((with_reducible refine gate_dst (N := 3) rfl ?_); refine box_event ?hg (N := 3) ?hd (cs := #[.bool false, .slice none 0 0]) (t := 40) ?hr ?_; (case hd => rfl); (case hg => rfl); (case hr => first | (go_simp; done) | (go_simp; rfl)); intro gb405 hg w5 hbox hb; have n0_ := Aside0.mk (Kd.R_below (by (with_reducible repeat (first | apply Kd.R_alloc | apply Kd.R_drewN | apply Kd.R_drew)); exact HO404.out) hb); have n1_ := Aside0.mk (below_step (by repeat (first | (with_reducible first | exact HB.out | apply below_alloc | apply pw_below_drewN | apply below_drew1) | exact HB.out)) hb); have n2_ := Aside0.mk (hbox); have n3_ := Aside0.mk ((by rw [hg]; exact (below_size (by repeat (first | (with_reducible first | exact HB.out | apply below_alloc | apply pw_below_drewN | apply below_drew1) | exact HB.out))) : w.heap.size ≤ gb405)); have n4_ := Aside0.mk ((by rw [hg]; exact (below_size (by repeat (first | (with_reducible first | exact HB.out | apply below_alloc | apply pw_below_drewN | apply below_drew1) | exact HB.out))) : w.heap.size ≤ gb405)); clear HO404; clear HB; have HO404 := n0_; have HB := n1_; have BK405 := n2_; have GW405 := n3_; have GE405 := n4_; clear n0_ n1_ n2_ n3_ n4_; clear hb hbox hg; have hcz6_0 : w5.cell? ⟨gb405, 0, none⟩ = some (.bool false) := (blk_cell BK405.out 0).trans rfl; have hcz6_1 : w5.cell? ⟨gb405, 1, none⟩ = some (.slice none 0 0) := (blk_cell BK405.out 1).trans rfl; have hfz6_0 := blk_frozen BK405.out 0; have hfz6_1 := blk_frozen BK405.out 1; obtain ⟨Ao7, co7, eo7⟩ := Kd.R_slice HO404.out; subst eo7) | ((with_reducible refine gate_dst (N := 9) rfl ?_); refine Kd.R_lit (Kd.int .i64) _ 3 ?hg (N := 9) ?hd (xs := ([] : List Int)) (inner := []) (ok := fun _ => True) (okp := fun _ => True) ?hr ?hp (fun _ hk => hk) trivial (Below.refl _ _) (Nat.le_refl _) (by simp) ?_; (case hd => rfl); (case hg => rfl); (case hr => first | (go_simp; done) | (go_simp; rfl)); (case hp => exact (Reps.none _ _)); intro v407 w8 ho9 hb hg_ hnew_; clear hg_ hnew_; (first | rw [← Ny406.out] at ho9 | (simp only [Int.reduceToNat] at ho9; rw [← Ny406.out] at ho9)); have n0_ := Aside0.mk (Kd.R_elder' (by (with_reducible repeat (first | apply Kd.R_alloc | apply Kd.R_drewN | apply Kd.R_drew)); exact (Kd.R_mono (Kd.R_far (p := ⟨gb405, 1, none⟩) (Kd.R_far (p := ⟨gb405, 0, none⟩) (Kd.R_types HO404.out BK405.out (by decide)) (fun _ hk => hk.2) (.bool t401)) (fun _ hk => hk.2) (.slice Ao7 t402.length co7)) (fun _ h_ => h_.1))) (Kd.R_base ho9) hb); have n1_ := Aside0.mk (Kd.R_lower (Kd.R_new' ho9 (Kd.R_lt (by (with_reducible repeat (first | apply Kd.R_alloc | apply Kd.R_drewN | apply Kd.R_drew)); exact (Kd.R_mono (Kd.R_far (p := ⟨gb405, 1, none⟩) (Kd.R_far (p := ⟨gb405, 0, none⟩) (Kd.R_types HO404.out BK405.out (by decide)) (fun _ hk => hk.2) (.bool t401)) (fun _ hk => hk.2) (.slice Ao7 t402.length co7)) (fun _ h_ => h_.1))))) (below_size (by repeat (first | (with_reducible first | exact HB.out | apply below_alloc | apply pw_below_drewN | apply below_drew1 | refine below_set ?_ GE405.out) | exact HB.out)))); have n2_ := Aside0.mk (blk_below (g := gb405) (o := .cells #[.bool t401, .slice Ao7 t402.length co7] 40 (0, 0)) (by (with_reducible repeat (first | refine blk_drewN ?_ _ | refine blk_drew ?_ | refine blk_alloc ?_ _)); refine blk_put (cs := #[.bool t401, .slice none 0 0]) ?_ 1 _ rfl; (with_reducible repeat (first | refine blk_drewN ?_ _ | refine blk_drew ?_ | refine blk_alloc ?_ _)); refine blk_put (cs := #[.bool false, .slice none 0 0]) ?_ 0 _ rfl; (with_reducible repeat (first | refine blk_drewN ?_ _ | refine blk_drew ?_ | refine blk_alloc ?_ _)); exact BK405.out) hb); have n3_ := Aside0.mk (below_step (by repeat (first | (with_reducible first | exact HB.out | apply below_alloc | apply pw_below_drewN | apply below_drew1 | refine below_set ?_ GE405.out) | exact HB.out)) hb); clear HO404; clear BK405; clear HB; have HO404 := n0_; have HO408 := n1_; have BK405 := n2_; have HB := n3_; clear n0_ n1_ n2_ n3_; clear hb ho9; have hcz10_0 : w8.cell? ⟨gb405, 0, none⟩ = some (.bool t401) := (blk_cell BK405.out 0).trans rfl; have hcz10_1 : w8.cell? ⟨gb405, 1, none⟩ = some (.slice Ao7 t402.length co7) := (blk_cell BK405.out 1).trans rfl; have hfz10_0 := blk_frozen BK405.out 0; have hfz10_1 := blk_frozen BK405.out 1) | ((with_reducible refine gate_builtin (b := .append) (xs := #[.tmp 9, .tmp 11]) rfl ?_); at_builtin; refine Kd.R_append_rows (Kd.int .i64) (w0 := w) w.heap.size rfl (.tmp 9) (.tmp 11) 38 3 (.int .i64 0) 8 rfl Try.underlying38 info3 rfl (by decide) (by omega) v407 y406 t402 _ _ _ (fun k_ => some k_ ≠ (.slice Ao7 t402.length co7 : Value).ownBlock) (fun _ => False) rfl rfl ?aO ?aR (fun _ _ h => h) (fun _ h => h.elim) ?aF ?aB ?aS ?aL ?_; (case aR => repeat (first | exact (Kd.R_reads' HO404.out).2.2 | (with_reducible refine Kd.C_alloc ?_ _) | (with_reducible refine Kd.C_drewN ?_ _) | (with_reducible refine Kd.C_drew ?_))); (case aB => exact (by repeat (first | (with_reducible first | exact HB.out | apply below_alloc | apply pw_below_drewN | apply below_drew1 | refine below_set ?_ GE405.out) | exact HB.out))); (case aF => exact (fun k_ hk => Kd.fresh' (Kd.R_lt (by (with_reducible repeat (first | apply Kd.R_alloc | apply Kd.R_drewN | apply Kd.R_drew)); exact HO404.out)) k_ hk)); (case aO => exact (by (with_reducible repeat (first | apply Kd.R_alloc | apply Kd.R_drewN | apply Kd.R_drew)); exact Kd.R_mono HO408.out (fun _ hk => hk.2))); (case aS => exact (below_size (by repeat (first | (with_reducible first | exact HB.out | apply below_alloc | apply pw_below_drewN | apply below_drew1 | refine below_set ?_ GE405.out) | exact HB.out)))); (case aL => have := LMc3.out; omega); intro v410 w11 ho hb hg hat; rw [← Ny409.out] at ho; have n0_ := Aside0.mk (Kd.R_after (ok := (fun _ => True)) (by (with_reducible repeat (first | apply Kd.R_alloc | apply Kd.R_drewN | apply Kd.R_drew)); exact HO404.out) hg hat); have n1_ := Aside0.mk (blk_grown (g := gb405) (o := .cells #[.bool t401, .slice Ao7 t402.length co7] 40 (0, 0)) (by (with_reducible repeat (first | refine blk_drewN ?_ _ | refine blk_drew ?_ | refine blk_alloc ?_ _)); exact BK405.out) hg (Kd.R_ne HO408.out BK405.out (by decide))); have n2_ := Aside0.mk (hb); have n3_ := Aside0.mk (ho); clear HO404; clear BK405; clear HB; clear HO408; have HO404 := n0_; have BK405 := n1_; have HB := n2_; have HO411 := n3_; clear n0_ n1_ n2_ n3_; clear ho hb hg hat))
    go_loopg [5] k (fun kq v5 w' => ∃ (x5_1 : List Int), Aside0 (aukletref01_Show.l0 kq (⟨#[]⟩ : ByteArray) x5_1 t401 t402 = some r) ∧ Aside0 (kq ≤ k) ∧ Aside0 (Kd.R (Kd.int .i64) 3 w' w.heap.size (fun k_ => some k_ ≠ ((.slice Ao7 t402.length co7) : Value).ownBlock) v5 x5_1) ∧ Aside0 (Kd.R (Kd.int .i64) 3 w' w.heap.size (fun k_ => some k_ ≠ (v5 : Value).ownBlock) (.slice Ao7 t402.length co7) t402) ∧ Aside0 (w'.heap[gb405]? = some (.cells #[.bool t401, (.slice Ao7 t402.length co7)] 40 (0, 0))) ∧ Aside0 (Below w.heap.size w w'))
    case atStart => exact ⟨(y409), H', ⟨Nat.le_refl _⟩, ⟨by (with_reducible repeat (first | apply Kd.R_alloc | apply Kd.R_drewN | apply Kd.R_drew)); exact HO411.out⟩, ⟨by (with_reducible repeat (first | apply Kd.R_alloc | apply Kd.R_drewN | apply Kd.R_drew)); exact Kd.R_mono HO404.out (fun _ hk => hk.2)⟩, ⟨by (with_reducible repeat (first | refine blk_drewN ?_ _ | refine blk_drew ?_ | refine blk_alloc ?_ _)); exact BK405.out⟩, ⟨by repeat (first | (with_reducible first | exact HB.out | apply below_alloc | apply pw_below_drewN | apply below_drew1 | refine below_set ?_ GE405.out) | exact HB.out)⟩⟩
    case round =>
      clear H'
      try clear c1
      try clear p2
      try clear c3
      try clear hcz10_0
      try clear hcz10_1
      try clear hcz6_0
      try clear hcz6_1
      try clear hfz10_0
      try clear hfz10_1
      try clear hfz6_0
      try clear hfz6_1
      obtain ⟨x5_1, HA, HK1, HO_5, HO_406001, BK405, HB⟩ := hrel
      cases gk with
      | zero => exact absurd HA.out (by simp [aukletref01_Show.l0])
      | succ k1 =>
        have H := HA.out
        clear HA
        simp only [aukletref01_Show.l0] at H
        by_cases c12 : (x5_1.length : Int) < 7
        · rw [if_pos c12] at H
          have c12b0 : decide ((x5_1.length : Int) < 7) = true := decide_eq_true c12
          have c12b1 : decide (x5_1.length < 7) = true := decide_eq_true (by omega)
          clear c12
          by_cases c13 : x5_1.length < 17592186044416
          · rw [if_pos c13] at H
            have LMc13 := Aside0.mk c13
            clear c13
            obtain ⟨y412, hy412⟩ : ∃ y_ : List Int, y_ = (x5_1 ++ [0]) := ⟨_, rfl⟩
            replace H : (aukletref01_Show.l0 k1 (⟨#[]⟩ : ByteArray) y412 t401 t402) = some r := by first | (rw [hy412]; with_reducible exact H) | (have H2_ := (Option.bind_some _ _).symm.trans H; rw [hy412]; with_reducible exact H2_) | (have H2_ := (Option.bind_some _ _).symm.trans H; with_reducible exact H2_) | with_reducible exact H | (rw [hy412]; exact H) | exact H
            have Ny412 := Aside0.mk hy412
            clear hy412
            have H' := Aside0.mk H
            clear H
            obtain ⟨Ao14, co14, eo14⟩ := Kd.R_slice HO_5.out
            subst eo14
            go_wp2_with (first | ((with_reducible refine gate_builtin (b := .append) (xs := #[.tmp 16, .tmp 17]) rfl ?_); at_builtin; refine Kd.R_append (Kd.int .i64) (w0 := w) w.heap.size rfl (.tmp 16) (.tmp 17) 38 3 (.int .i64 0) 8 rfl Try.underlying38 info3 rfl (by decide) (by omega) (.slice Ao14 x5_1.length co14) x5_1 0 [.int .i64 0] (fun k_ => some k_ ≠ (.slice Ao7 t402.length co7 : Value).ownBlock) (fun _ => False) rfl rfl ?aP (fun _ hk => hk.elim) ?aF ?aO ?aB ?aS ?aL ?_; (case aP => exact rfl); (case aB => exact (by repeat (first | (with_reducible first | exact HB.out | apply below_alloc | apply pw_below_drewN | apply below_drew1 | refine below_set ?_ GE405.out) | exact HB.out))); (case aF => exact (fun k_ hk => Kd.fresh' (Kd.R_lt (by (with_reducible repeat (first | apply Kd.R_alloc | apply Kd.R_drewN | apply Kd.R_drew)); exact HO_406001.out)) k_ hk)); (case aO => exact (by (with_reducible repeat (first | apply Kd.R_alloc | apply Kd.R_drewN | apply Kd.R_drew)); exact HO_5.out)); (case aS => exact (below_size (by repeat (first | (with_reducible first | exact HB.out | apply below_alloc | apply pw_below_drewN | apply below_drew1 | refine below_set ?_ GE405.out) | exact HB.out)))); (case aL => have := LMc13.out; omega); intro v413 w15 ho hb hg hat; rw [← Ny412.out] at ho; have n0_ := Aside0.mk (Kd.R_after (ok := (fun _ => True)) (by (with_reducible repeat (first | apply Kd.R_alloc | apply Kd.R_drewN | apply Kd.R_drew)); exact Kd.R_mono HO_406001.out (fun _ hk => ⟨trivial, hk⟩)) hg hat); have n1_ := Aside0.mk (blk_grown (g := gb405) (o := .cells #[.bool t401, .slice Ao7 t402.length co7] 40 (0, 0)) (by (with_reducible repeat (first | refine blk_drewN ?_ _ | refine blk_drew ?_ | refine blk_alloc ?_ _)); exact BK405.out) hg (Kd.R_ne HO_5.out BK405.out (by decide))); have n2_ := Aside0.mk (hb); have n3_ := Aside0.mk (ho); clear HO_406001; clear BK405; clear HB; clear HO_5; have HO_406001 := n0_; have BK405 := n1_; have HB := n2_; have HO414 := n3_; clear n0_ n1_ n2_ n3_; clear ho hb hg hat))
            go_roundg k1
            case measure => have := HK1.out; omega
            case rel => exact ⟨(y412), H', ⟨by have := HK1.out; omega⟩, ⟨by (with_reducible repeat (first | apply Kd.R_alloc | apply Kd.R_drewN | apply Kd.R_drew)); exact HO414.out⟩, ⟨by (with_reducible repeat (first | apply Kd.R_alloc | apply Kd.R_drewN | apply Kd.R_drew)); exact Kd.R_mono HO_406001.out (fun _ hk => hk.2)⟩, ⟨by (with_reducible repeat (first | refine blk_drewN ?_ _ | refine blk_drew ?_ | refine blk_alloc ?_ _)); exact BK405.out⟩, ⟨by repeat (first | (with_reducible first | exact HB.out | apply below_alloc | apply pw_below_drewN | apply below_drew1 | refine below_set ?_ GE405.out) | exact HB.out)⟩⟩
          · rw [if_neg c13] at H
            exact absurd H (by simp)
        · rw [if_neg c12] at H
          have c12b0 : decide ((x5_1.length : Int) < 7) = false := decide_eq_false c12
          have c12b1 : decide (x5_1.length < 7) = false := decide_eq_false (by omega)
          clear c12
          have H' := Aside0.mk H
          clear H
          obtain ⟨Ao16, co16, eo16⟩ := Kd.R_slice HO_5.out
          subst eo16
          go_wp2
          go_loopg [4, 6] k1 (fun kq v4 v6 w' => ∃ (x4_2 : ByteArray) (x6_2 : Int), v4 = .string x4_2 ∧ v6 = .int .i64 x6_2 ∧ Aside0 (aukletref01_Show.l1 kq x4_2 x5_1 x6_2 t401 t402 = some r) ∧ Aside0 (kq ≤ k1) ∧ Aside0 (Kd.R (Kd.int .i64) 3 w' w.heap.size (fun k_ => some k_ ≠ ((.slice Ao7 t402.length co7) : Value).ownBlock) (.slice Ao16 x5_1.length co16) x5_1) ∧ Aside0 (Kd.R (Kd.int .i64) 3 w' w.heap.size (fun k_ => some k_ ≠ ((.slice Ao16 x5_1.length co16) : Value).ownBlock) (.slice Ao7 t402.length co7) t402) ∧ Aside0 (w'.heap[gb405]? = some (.cells #[.bool t401, (.slice Ao7 t402.length co7)] 40 (0, 0))) ∧ Aside0 (Below w.heap.size w w'))
          case atStart => exact ⟨((⟨#[]⟩ : ByteArray)), (0), (by first | rfl | (simp; done) | (simp [*]; done)), (by first | rfl | (simp; done) | (simp [*]; done)), H', ⟨Nat.le_refl _⟩, ⟨by (with_reducible repeat (first | apply Kd.R_alloc | apply Kd.R_drewN | apply Kd.R_drew)); exact HO_5.out⟩, ⟨by (with_reducible repeat (first | apply Kd.R_alloc | apply Kd.R_drewN | apply Kd.R_drew)); exact HO_406001.out⟩, ⟨by (with_reducible repeat (first | refine blk_drewN ?_ _ | refine blk_drew ?_ | refine blk_alloc ?_ _)); exact BK405.out⟩, ⟨by repeat (first | (with_reducible first | exact HB.out | apply below_alloc | apply pw_below_drewN | apply below_drew1 | refine below_set ?_ GE405.out) | exact HB.out)⟩⟩
          case round =>
            clear H'
            try clear c1
            try clear p2
            try clear c3
            try clear c12
            try clear c12b0
            try clear c12b1
            try clear c13
            try clear hcz10_0
            try clear hcz10_1
            try clear hcz6_0
            try clear hcz6_1
            try clear hfz10_0
            try clear hfz10_1
            try clear hfz6_0
            try clear hfz6_1
            try clear p2
            obtain ⟨x4_2, x6_2, rfl, rfl, HA, HK2, HO_5, HO_406001, BK405, HB⟩ := hrel
            cases gk with
            | zero => exact absurd HA.out (by simp [aukletref01_Show.l1])
            | succ k2 =>
              have H := HA.out
              clear HA
              simp only [aukletref01_Show.l1] at H
              by_cases c17 : x6_2 < (x5_1.length : Int)
              · rw [if_pos c17] at H
                have c17b0 : decide (x6_2 < (x5_1.length : Int)) = true := decide_eq_true c17
                clear c17
                have HC18 := Aside0.mk H
                clear H
                go_upto_region 8 with (fail)
                go_cut [30] (fun v30 wc => ∃ (kq : Nat) (x30_17 : Bool), v30 = .bool x30_17 ∧ Aside0 (aukletref01_Show.j2 kq x4_2 x5_1 x6_2 x30_17 t401 t402 = some r) ∧ Aside0 (kq ≤ k2) ∧ Aside0 (Kd.R (Kd.int .i64) 3 wc w.heap.size (fun k_ => some k_ ≠ ((.slice Ao7 t402.length co7) : Value).ownBlock) (.slice Ao16 x5_1.length co16) x5_1) ∧ Aside0 (Kd.R (Kd.int .i64) 3 wc w.heap.size (fun k_ => some k_ ≠ ((.slice Ao16 x5_1.length co16) : Value).ownBlock) (.slice Ao7 t402.length co7) t402) ∧ Aside0 (wc.heap[gb405]? = some (.cells #[.bool t401, (.slice Ao7 t402.length co7)] 40 (0, 0))) ∧ Aside0 (Below w.heap.size w wc))
                case first =>
                  have H := HC18.out
                  clear HC18
                  by_cases c19 : x6_2 = 6
                  · rw [if_pos c19] at H
                    have c19b0 : (x6_2 == 6) = true := beq_iff_eq.mpr c19
                    have c19b1 : (x6_2 != 6) = false := bne_eq_false_iff_eq.mpr c19
                    clear c19
                    (first | rw [c19b0] | (simp only [i64_w, i32_w]; rw [c19b0]) | skip)
                    have H' := Aside0.mk H
                    clear H
                    go_wp2
                    go_meet
                    case rel => exact ⟨_, ((x4_2.toList != ([] : List UInt8))), (by first | rfl | (simp; done) | (simp [*]; done) | (cases x4_2.toList <;> rfl)), H', ⟨by have := HK1.out; have := HK2.out; first | omega | exact Nat.le_refl _⟩, ⟨by (with_reducible repeat (first | apply Kd.R_alloc | apply Kd.R_drewN | apply Kd.R_drew)); exact HO_5.out⟩, ⟨by (with_reducible repeat (first | apply Kd.R_alloc | apply Kd.R_drewN | apply Kd.R_drew)); exact HO_406001.out⟩, ⟨by (with_reducible repeat (first | refine blk_drewN ?_ _ | refine blk_drew ?_ | refine blk_alloc ?_ _)); exact BK405.out⟩, ⟨by repeat (first | (with_reducible first | exact HB.out | apply below_alloc | apply pw_below_drewN | apply below_drew1 | refine below_set ?_ GE405.out) | exact HB.out)⟩⟩
                  · rw [if_neg c19] at H
                    have c19b0 : (x6_2 == 6) = false := beq_eq_false_iff_ne.mpr c19
                    have c19b1 : (x6_2 != 6) = true := bne_iff_ne.mpr c19
                    (first | rw [c19b0] | (simp only [i64_w, i32_w]; rw [c19b0]) | skip)
                    have H' := Aside0.mk H
                    clear H
                    go_wp2
                    go_meet
                    case rel => exact ⟨_, (false), (by first | rfl | (simp; done) | (simp [*]; done)), H', ⟨by have := HK1.out; have := HK2.out; first | omega | exact Nat.le_refl _⟩, ⟨by (with_reducible repeat (first | apply Kd.R_alloc | apply Kd.R_drewN | apply Kd.R_drew)); exact HO_5.out⟩, ⟨by (with_reducible repeat (first | apply Kd.R_alloc | apply Kd.R_drewN | apply Kd.R_drew)); exact HO_406001.out⟩, ⟨by (with_reducible repeat (first | refine blk_drewN ?_ _ | refine blk_drew ?_ | refine blk_alloc ?_ _)); exact BK405.out⟩, ⟨by repeat (first | (with_reducible first | exact HB.out | apply below_alloc | apply pw_below_drewN | apply below_drew1 | refine below_set ?_ GE405.out) | exact HB.out)⟩⟩
                case rest =>
                  clear HC18
                  try clear c1
                  try clear p2
                  try clear c3
                  try clear c12
                  try clear c12b0
                  try clear c12b1
                  try clear c13
                  try clear c17
                  try clear c17b0
                  try clear c19
                  try clear c19b0
                  try clear c19b1
                  try clear hcz10_0
                  try clear hcz10_1
                  try clear hcz6_0
                  try clear hcz6_1
                  try clear hfz10_0
                  try clear hfz10_1
                  try clear hfz6_0
                  try clear hfz6_1
                  try clear p2
                  obtain ⟨kq, x30_17, rfl, HA, HJ17, HO_5, HO_406001, BK405, HB⟩ := hcut
                  cases kq with
                  | zero => exact absurd HA.out (by simp [aukletref01_Show.j2])
                  | succ kj17 =>
                    have H := HA.out
                    clear HA
                    simp only [aukletref01_Show.j2] at H
                    by_cases c20 : x30_17 = true
                    · subst c20
                      have H1 : (if 1 + x4_2.size ≤ 9223372036854775807 then (if x6_2 ≥ 6 then (if 0 ≤ x6_2 then (if x6_2 < (x5_1.length : Int) then ((some (([(48 + ((rd x5_1 x6_2) % 256)) % 256] : List Int) : List Int)).bind fun y416 => (if (strOfNums y416).size + ((⟨#[46]⟩ : ByteArray) ++ x4_2).size ≤ 9223372036854775807 then (aukletref01_Show.l1 kj17 ((strOfNums y416) ++ ((⟨#[46]⟩ : ByteArray) ++ x4_2)) x5_1 (wrap64 (x6_2 + 1)) t401 t402) else (none))) else (none)) else (none)) else (if ((⟨#[46]⟩ : ByteArray) ++ x4_2).toList = ([] : List UInt8) then (if 0 ≤ x6_2 then (if x6_2 < (x5_1.length : Int) then (if (rd x5_1 x6_2) > 0 then ((some (([(48 + ((rd x5_1 x6_2) % 256)) % 256] : List Int) : List Int)).bind fun y421 => (if (strOfNums y421).size + ((⟨#[46]⟩ : ByteArray) ++ x4_2).size ≤ 9223372036854775807 then (aukletref01_Show.l1 kj17 ((strOfNums y421) ++ ((⟨#[46]⟩ : ByteArray) ++ x4_2)) x5_1 (wrap64 (x6_2 + 1)) t401 t402) else (none))) else (aukletref01_Show.l1 kj17 ((⟨#[46]⟩ : ByteArray) ++ x4_2) x5_1 (wrap64 (x6_2 + 1)) t401 t402)) else (none)) else (none)) else (if 0 ≤ x6_2 then (if x6_2 < (x5_1.length : Int) then ((some (([(48 + ((rd x5_1 x6_2) % 256)) % 256] : List Int) : List Int)).bind fun y425 => (if (strOfNums y425).size + ((⟨#[46]⟩ : ByteArray) ++ x4_2).size ≤ 9223372036854775807 then (aukletref01_Show.l1 kj17 ((strOfNums y425) ++ ((⟨#[46]⟩ : ByteArray) ++ x4_2)) x5_1 (wrap64 (x6_2 + 1)) t401 t402) else (none))) else (none)) else (none)))) else (none)) = some r := by rw [if_pos rfl] at H; exact H
                      clear H
                      have H := H1
                      clear H1
                      by_cases c21 : 1 + x4_2.size ≤ 9223372036854775807
                      · rw [if_pos c21] at H
                        have c21b0 := eq_true c21
                        have c21b1 : decide (1 + x4_2.size ≤ 9223372036854775807) = true := decide_eq_true c21
                        try have c21b2 : (9223372036854775807 < 1 + x4_2.size) = False := eq_false (Nat.not_lt.2 c21)
                        by_cases c22 : x6_2 ≥ 6
                        · rw [if_pos c22] at H
                          have c22b0 : decide (6 ≤ x6_2) = true := decide_eq_true c22
                          clear c22
                          by_cases c23 : 0 ≤ x6_2
                          · rw [if_pos c23] at H
                            have c23b0 : decide (0 ≤ x6_2) = true := decide_eq_true c23
                            clear c23
                            by_cases c24 : x6_2 < (x5_1.length : Int)
                            · rw [if_pos c24] at H
                              have c24b0 : decide (x6_2 < (x5_1.length : Int)) = true := decide_eq_true c24
                              clear c24
                              obtain ⟨y416, hy416⟩ : ∃ y_ : List Int, y_ = (([(48 + ((rd x5_1 x6_2) % 256)) % 256] : List Int)) := ⟨_, rfl⟩
                              replace H : (if (strOfNums y416).size + ((⟨#[46]⟩ : ByteArray) ++ x4_2).size ≤ 9223372036854775807 then (aukletref01_Show.l1 kj17 ((strOfNums y416) ++ ((⟨#[46]⟩ : ByteArray) ++ x4_2)) x5_1 (wrap64 (x6_2 + 1)) t401 t402) else (none)) = some r := by first | (rw [hy416]; with_reducible exact H) | (have H2_ := (Option.bind_some _ _).symm.trans H; rw [hy416]; with_reducible exact H2_) | (have H2_ := (Option.bind_some _ _).symm.trans H; with_reducible exact H2_) | with_reducible exact H | (rw [hy416]; exact H) | exact H
                              have Ny416 := Aside0.mk hy416
                              clear hy416
                              by_cases c25 : (strOfNums y416).size + ((⟨#[46]⟩ : ByteArray) ++ x4_2).size ≤ 9223372036854775807
                              · rw [if_pos c25] at H
                                have c25b0 := eq_true c25
                                have c25b1 : decide ((strOfNums y416).size + ((⟨#[46]⟩ : ByteArray) ++ x4_2).size ≤ 9223372036854775807) = true := decide_eq_true c25
                                try have c25b2 : (9223372036854775807 < (strOfNums y416).size + ((⟨#[46]⟩ : ByteArray) ++ x4_2).size) = False := eq_false (Nat.not_lt.2 c25)
                                have H' := Aside0.mk H
                                clear H
                                have p415 : 0 ≤ (x6_2 : Int) := of_decide_eq_true (by first | (with_reducible assumption) | assumption)
                                have q415 : x6_2 < (x5_1.length : Int) := of_decide_eq_true (by first | (with_reducible assumption) | assumption)
                                obtain ⟨ad415, e415, hx415_0⟩ := Kd.at_int (Kd.R_reads' HO_5.out).2.2 x6_2 p415 q415
                                cases e415
                                replace p415 := eq_true p415
                                replace q415 := eq_true q415
                                go_wp2_with (first | ((with_reducible refine gate_dst (N := 52) rfl ?_); refine Kd.R_lit (Kd.int .u8) _ 5 ?hg (N := 52) ?hd (xs := ([(48 + ((rd x5_1 x6_2) % 256)) % 256] : List Int)) (inner := [.int .u8 ((48 + ((rd x5_1 x6_2) % 256)) % 256)]) (ok := fun _ => True) (okp := fun _ => True) ?hr ?hp (fun _ hk => hk) trivial (Below.refl _ _) (Nat.le_refl _) (by simp) ?_; (case hd => rfl); (case hg => rfl); (case hr => first | (go_simp; done) | (go_simp; rfl)); (case hp => exact (Reps.one (show Kd.M (Kd.int .u8) _ _ _ ((48 + ((rd x5_1 x6_2) % 256)) % 256) [.int .u8 ((48 + ((rd x5_1 x6_2) % 256)) % 256)] from rfl) (Reps.none _ _))); intro v417 w26 ho27 hb hg_ hnew_; clear hg_ hnew_; (first | rw [← Ny416.out] at ho27 | (simp only [Int.reduceToNat] at ho27; rw [← Ny416.out] at ho27)); have n0_ := Aside0.mk (Kd.R_below (by (with_reducible repeat (first | apply Kd.R_alloc | apply Kd.R_drewN | apply Kd.R_drew)); exact HO_5.out) hb); have n1_ := Aside0.mk (Kd.R_below (by (with_reducible repeat (first | apply Kd.R_alloc | apply Kd.R_drewN | apply Kd.R_drew)); exact HO_406001.out) hb); have n2_ := Aside0.mk (Kd.R_lower ho27 (below_size (by repeat (first | (with_reducible first | exact HB.out | apply below_alloc | apply pw_below_drewN | apply below_drew1 | refine below_set ?_ GE405.out) | exact HB.out)))); have n3_ := Aside0.mk (blk_below (g := gb405) (o := .cells #[.bool t401, .slice Ao7 t402.length co7] 40 (0, 0)) (by (with_reducible repeat (first | refine blk_drewN ?_ _ | refine blk_drew ?_ | refine blk_alloc ?_ _)); exact BK405.out) hb); have n4_ := Aside0.mk (below_step (by repeat (first | (with_reducible first | exact HB.out | apply below_alloc | apply pw_below_drewN | apply below_drew1 | refine below_set ?_ GE405.out) | exact HB.out)) hb); clear HO_5; clear HO_406001; clear BK405; clear HB; have HO_5 := n0_; have HO_406001 := n1_; have HO418 := n2_; have BK405 := n3_; have HB := n4_; clear n0_ n1_ n2_ n3_ n4_; clear hb ho27; have hcv28 := own_string (P := Try.prog) Try.underlying56 Try.underlying5 Try.underlying9 (Kd.own_of_R HO418.out)))
                                go_roundg kj17
                                case measure => have := HK1.out; have := HK2.out; have := HJ17.out; omega
                                case rel => exact ⟨((strOfNums y416) ++ ((⟨#[46]⟩ : ByteArray) ++ x4_2)), (wrap64 (x6_2 + 1)), (by first | rfl | (simp; done) | (simp [*]; done)), (by first | rfl | (simp; done) | (simp [*]; done)), H', ⟨by have := HK1.out; have := HK2.out; have := HJ17.out; omega⟩, ⟨by (with_reducible repeat (first | apply Kd.R_alloc | apply Kd.R_drewN | apply Kd.R_drew)); exact HO_5.out⟩, ⟨by (with_reducible repeat (first | apply Kd.R_alloc | apply Kd.R_drewN | apply Kd.R_drew)); exact HO_406001.out⟩, ⟨by (with_reducible repeat (first | refine blk_drewN ?_ _ | refine blk_drew ?_ | refine blk_alloc ?_ _)); exact BK405.out⟩, ⟨by repeat (first | (with_reducible first | exact HB.out | apply below_alloc | apply pw_below_drewN | apply below_drew1 | refine below_set ?_ GE405.out) | exact HB.out)⟩⟩
                              · rw [if_neg c25] at H
                                exact absurd H (by simp)
                            · rw [if_neg c24] at H
                              exact absurd H (by simp)
                          · rw [if_neg c23] at H
                            exact absurd H (by simp)
                        · rw [if_neg c22] at H
                          have c22b0 : decide (6 ≤ x6_2) = false := decide_eq_false c22
                          clear c22
                          by_cases c29 : ((⟨#[46]⟩ : ByteArray) ++ x4_2).toList = ([] : List UInt8)
                          · rw [if_pos c29] at H
                            have c29b0 : (((⟨#[46]⟩ : ByteArray) ++ x4_2).toList == ([] : List UInt8)) = true := beq_iff_eq.mpr c29
                            have c29b1 : (((⟨#[46]⟩ : ByteArray) ++ x4_2).toList != ([] : List UInt8)) = false := bne_eq_false_iff_eq.mpr c29
                            clear c29
                            by_cases c30 : 0 ≤ x6_2
                            · rw [if_pos c30] at H
                              have c30b0 : decide (0 ≤ x6_2) = true := decide_eq_true c30
                              clear c30
                              by_cases c31 : x6_2 < (x5_1.length : Int)
                              · rw [if_pos c31] at H
                                have c31b0 : decide (x6_2 < (x5_1.length : Int)) = true := decide_eq_true c31
                                clear c31
                                by_cases c32 : (rd x5_1 x6_2) > 0
                                · rw [if_pos c32] at H
                                  have c32b0 : decide (0 < (rd x5_1 x6_2)) = true := decide_eq_true c32
                                  clear c32
                                  obtain ⟨y421, hy421⟩ : ∃ y_ : List Int, y_ = (([(48 + ((rd x5_1 x6_2) % 256)) % 256] : List Int)) := ⟨_, rfl⟩
                                  replace H : (if (strOfNums y421).size + ((⟨#[46]⟩ : ByteArray) ++ x4_2).size ≤ 9223372036854775807 then (aukletref01_Show.l1 kj17 ((strOfNums y421) ++ ((⟨#[46]⟩ : ByteArray) ++ x4_2)) x5_1 (wrap64 (x6_2 + 1)) t401 t402) else (none)) = some r := by first | (rw [hy421]; with_reducible exact H) | (have H2_ := (Option.bind_some _ _).symm.trans H; rw [hy421]; with_reducible exact H2_) | (have H2_ := (Option.bind_some _ _).symm.trans H; with_reducible exact H2_) | with_reducible exact H | (rw [hy421]; exact H) | exact H
                                  have Ny421 := Aside0.mk hy421
                                  clear hy421
                                  by_cases c33 : (strOfNums y421).size + ((⟨#[46]⟩ : ByteArray) ++ x4_2).size ≤ 9223372036854775807
                                  · rw [if_pos c33] at H
                                    have c33b0 := eq_true c33
                                    have c33b1 : decide ((strOfNums y421).size + ((⟨#[46]⟩ : ByteArray) ++ x4_2).size ≤ 9223372036854775807) = true := decide_eq_true c33
                                    try have c33b2 : (9223372036854775807 < (strOfNums y421).size + ((⟨#[46]⟩ : ByteArray) ++ x4_2).size) = False := eq_false (Nat.not_lt.2 c33)
                                    have H' := Aside0.mk H
                                    clear H
                                    have p419 : 0 ≤ (x6_2 : Int) := of_decide_eq_true (by first | (with_reducible assumption) | assumption)
                                    have q419 : x6_2 < (x5_1.length : Int) := of_decide_eq_true (by first | (with_reducible assumption) | assumption)
                                    obtain ⟨ad419, e419, hx419_0⟩ := Kd.at_int (Kd.R_reads' HO_5.out).2.2 x6_2 p419 q419
                                    cases e419
                                    replace p419 := eq_true p419
                                    replace q419 := eq_true q419
                                    have p420 : 0 ≤ (x6_2 : Int) := of_decide_eq_true (by first | (with_reducible assumption) | assumption)
                                    have q420 : x6_2 < (x5_1.length : Int) := of_decide_eq_true (by first | (with_reducible assumption) | assumption)
                                    obtain ⟨ad420, e420, hx420_0⟩ := Kd.at_int (Kd.R_reads' HO_5.out).2.2 x6_2 p420 q420
                                    obtain rfl : ad419 = ad420 := (by injection e420)
                                    replace p420 := eq_true p420
                                    replace q420 := eq_true q420
                                    go_wp2_with (first | ((with_reducible refine gate_dst (N := 52) rfl ?_); refine Kd.R_lit (Kd.int .u8) _ 5 ?hg (N := 52) ?hd (xs := ([(48 + ((rd x5_1 x6_2) % 256)) % 256] : List Int)) (inner := [.int .u8 ((48 + ((rd x5_1 x6_2) % 256)) % 256)]) (ok := fun _ => True) (okp := fun _ => True) ?hr ?hp (fun _ hk => hk) trivial (Below.refl _ _) (Nat.le_refl _) (by simp) ?_; (case hd => rfl); (case hg => rfl); (case hr => first | (go_simp; done) | (go_simp; rfl)); (case hp => exact (Reps.one (show Kd.M (Kd.int .u8) _ _ _ ((48 + ((rd x5_1 x6_2) % 256)) % 256) [.int .u8 ((48 + ((rd x5_1 x6_2) % 256)) % 256)] from rfl) (Reps.none _ _))); intro v422 w34 ho35 hb hg_ hnew_; clear hg_ hnew_; (first | rw [← Ny421.out] at ho35 | (simp only [Int.reduceToNat] at ho35; rw [← Ny421.out] at ho35)); have n0_ := Aside0.mk (Kd.R_below (by (with_reducible repeat (first | apply Kd.R_alloc | apply Kd.R_drewN | apply Kd.R_drew)); exact HO_5.out) hb); have n1_ := Aside0.mk (Kd.R_below (by (with_reducible repeat (first | apply Kd.R_alloc | apply Kd.R_drewN | apply Kd.R_drew)); exact HO_406001.out) hb); have n2_ := Aside0.mk (Kd.R_lower ho35 (below_size (by repeat (first | (with_reducible first | exact HB.out | apply below_alloc | apply pw_below_drewN | apply below_drew1 | refine below_set ?_ GE405.out) | exact HB.out)))); have n3_ := Aside0.mk (blk_below (g := gb405) (o := .cells #[.bool t401, .slice Ao7 t402.length co7] 40 (0, 0)) (by (with_reducible repeat (first | refine blk_drewN ?_ _ | refine blk_drew ?_ | refine blk_alloc ?_ _)); exact BK405.out) hb); have n4_ := Aside0.mk (below_step (by repeat (first | (with_reducible first | exact HB.out | apply below_alloc | apply pw_below_drewN | apply below_drew1 | refine below_set ?_ GE405.out) | exact HB.out)) hb); clear HO_5; clear HO_406001; clear BK405; clear HB; have HO_5 := n0_; have HO_406001 := n1_; have HO423 := n2_; have BK405 := n3_; have HB := n4_; clear n0_ n1_ n2_ n3_ n4_; clear hb ho35; have hcv36 := own_string (P := Try.prog) Try.underlying56 Try.underlying5 Try.underlying9 (Kd.own_of_R HO423.out)))
                                    go_roundg kj17
                                    case measure => have := HK1.out; have := HK2.out; have := HJ17.out; omega
                                    case rel => exact ⟨((strOfNums y421) ++ ((⟨#[46]⟩ : ByteArray) ++ x4_2)), (wrap64 (x6_2 + 1)), (by first | rfl | (simp; done) | (simp [*]; done)), (by first | rfl | (simp; done) | (simp [*]; done)), H', ⟨by have := HK1.out; have := HK2.out; have := HJ17.out; omega⟩, ⟨by (with_reducible repeat (first | apply Kd.R_alloc | apply Kd.R_drewN | apply Kd.R_drew)); exact HO_5.out⟩, ⟨by (with_reducible repeat (first | apply Kd.R_alloc | apply Kd.R_drewN | apply Kd.R_drew)); exact HO_406001.out⟩, ⟨by (with_reducible repeat (first | refine blk_drewN ?_ _ | refine blk_drew ?_ | refine blk_alloc ?_ _)); exact BK405.out⟩, ⟨by repeat (first | (with_reducible first | exact HB.out | apply below_alloc | apply pw_below_drewN | apply below_drew1 | refine below_set ?_ GE405.out) | exact HB.out)⟩⟩
                                  · rw [if_neg c33] at H
                                    exact absurd H (by simp)
                                · rw [if_neg c32] at H
                                  have c32b0 : decide (0 < (rd x5_1 x6_2)) = false := decide_eq_false c32
                                  clear c32
                                  have H' := Aside0.mk H
                                  clear H
                                  have p419 : 0 ≤ (x6_2 : Int) := of_decide_eq_true (by first | (with_reducible assumption) | assumption)
                                  have q419 : x6_2 < (x5_1.length : Int) := of_decide_eq_true (by first | (with_reducible assumption) | assumption)
                                  obtain ⟨ad419, e419, hx419_0⟩ := Kd.at_int (Kd.R_reads' HO_5.out).2.2 x6_2 p419 q419
                                  cases e419
                                  replace p419 := eq_true p419
                                  replace q419 := eq_true q419
                                  go_wp2
                                  go_roundg kj17
                                  case measure => have := HK1.out; have := HK2.out; have := HJ17.out; omega
                                  case rel => exact ⟨((⟨#[46]⟩ : ByteArray) ++ x4_2), (wrap64 (x6_2 + 1)), (by first | rfl | (simp; done) | (simp [*]; done)), (by first | rfl | (simp; done) | (simp [*]; done)), H', ⟨by have := HK1.out; have := HK2.out; have := HJ17.out; omega⟩, ⟨by (with_reducible repeat (first | apply Kd.R_alloc | apply Kd.R_drewN | apply Kd.R_drew)); exact HO_5.out⟩, ⟨by (with_reducible repeat (first | apply Kd.R_alloc | apply Kd.R_drewN | apply Kd.R_drew)); exact HO_406001.out⟩, ⟨by (with_reducible repeat (first | refine blk_drewN ?_ _ | refine blk_drew ?_ | refine blk_alloc ?_ _)); exact BK405.out⟩, ⟨by repeat (first | (with_reducible first | exact HB.out | apply below_alloc | apply pw_below_drewN | apply below_drew1 | refine below_set ?_ GE405.out) | exact HB.out)⟩⟩
                              · rw [if_neg c31] at H
                                exact absurd H (by simp)
                            · rw [if_neg c30] at H
                              exact absurd H (by simp)
                          · rw [if_neg c29] at H
                            have c29b0 : (((⟨#[46]⟩ : ByteArray) ++ x4_2).toList == ([] : List UInt8)) = false := beq_eq_false_iff_ne.mpr c29
                            have c29b1 : (((⟨#[46]⟩ : ByteArray) ++ x4_2).toList != ([] : List UInt8)) = true := bne_iff_ne.mpr c29
                            by_cases c37 : 0 ≤ x6_2
                            · rw [if_pos c37] at H
                              have c37b0 : decide (0 ≤ x6_2) = true := decide_eq_true c37
                              clear c37
                              by_cases c38 : x6_2 < (x5_1.length : Int)
                              · rw [if_pos c38] at H
                                have c38b0 : decide (x6_2 < (x5_1.length : Int)) = true := decide_eq_true c38
                                clear c38
                                obtain ⟨y425, hy425⟩ : ∃ y_ : List Int, y_ = (([(48 + ((rd x5_1 x6_2) % 256)) % 256] : List Int)) := ⟨_, rfl⟩
                                replace H : (if (strOfNums y425).size + ((⟨#[46]⟩ : ByteArray) ++ x4_2).size ≤ 9223372036854775807 then (aukletref01_Show.l1 kj17 ((strOfNums y425) ++ ((⟨#[46]⟩ : ByteArray) ++ x4_2)) x5_1 (wrap64 (x6_2 + 1)) t401 t402) else (none)) = some r := by first | (rw [hy425]; with_reducible exact H) | (have H2_ := (Option.bind_some _ _).symm.trans H; rw [hy425]; with_reducible exact H2_) | (have H2_ := (Option.bind_some _ _).symm.trans H; with_reducible exact H2_) | with_reducible exact H | (rw [hy425]; exact H) | exact H
                                have Ny425 := Aside0.mk hy425
                                clear hy425
                                by_cases c39 : (strOfNums y425).size + ((⟨#[46]⟩ : ByteArray) ++ x4_2).size ≤ 9223372036854775807
                                · rw [if_pos c39] at H
                                  have c39b0 := eq_true c39
                                  have c39b1 : decide ((strOfNums y425).size + ((⟨#[46]⟩ : ByteArray) ++ x4_2).size ≤ 9223372036854775807) = true := decide_eq_true c39
                                  try have c39b2 : (9223372036854775807 < (strOfNums y425).size + ((⟨#[46]⟩ : ByteArray) ++ x4_2).size) = False := eq_false (Nat.not_lt.2 c39)
                                  have H' := Aside0.mk H
                                  clear H
                                  have p424 : 0 ≤ (x6_2 : Int) := of_decide_eq_true (by first | (with_reducible assumption) | assumption)
                                  have q424 : x6_2 < (x5_1.length : Int) := of_decide_eq_true (by first | (with_reducible assumption) | assumption)
                                  obtain ⟨ad424, e424, hx424_0⟩ := Kd.at_int (Kd.R_reads' HO_5.out).2.2 x6_2 p424 q424
                                  cases e424
                                  replace p424 := eq_true p424
                                  replace q424 := eq_true q424
                                  go_wp2_with (first | ((with_reducible refine gate_dst (N := 52) rfl ?_); refine Kd.R_lit (Kd.int .u8) _ 5 ?hg (N := 52) ?hd (xs := ([(48 + ((rd x5_1 x6_2) % 256)) % 256] : List Int)) (inner := [.int .u8 ((48 + ((rd x5_1 x6_2) % 256)) % 256)]) (ok := fun _ => True) (okp := fun _ => True) ?hr ?hp (fun _ hk => hk) trivial (Below.refl _ _) (Nat.le_refl _) (by simp) ?_; (case hd => rfl); (case hg => rfl); (case hr => first | (go_simp; done) | (go_simp; rfl)); (case hp => exact (Reps.one (show Kd.M (Kd.int .u8) _ _ _ ((48 + ((rd x5_1 x6_2) % 256)) % 256) [.int .u8 ((48 + ((rd x5_1 x6_2) % 256)) % 256)] from rfl) (Reps.none _ _))); intro v426 w40 ho41 hb hg_ hnew_; clear hg_ hnew_; (first | rw [← Ny425.out] at ho41 | (simp only [Int.reduceToNat] at ho41; rw [← Ny425.out] at ho41)); have n0_ := Aside0.mk (Kd.R_below (by (with_reducible repeat (first | apply Kd.R_alloc | apply Kd.R_drewN | apply Kd.R_drew)); exact HO_5.out) hb); have n1_ := Aside0.mk (Kd.R_below (by (with_reducible repeat (first | apply Kd.R_alloc | apply Kd.R_drewN | apply Kd.R_drew)); exact HO_406001.out) hb); have n2_ := Aside0.mk (Kd.R_lower ho41 (below_size (by repeat (first | (with_reducible first | exact HB.out | apply below_alloc | apply pw_below_drewN | apply below_drew1 | refine below_set ?_ GE405.out) | exact HB.out)))); have n3_ := Aside0.mk (blk_below (g := gb405) (o := .cells #[.bool t401, .slice Ao7 t402.length co7] 40 (0, 0)) (by (with_reducible repeat (first | refine blk_drewN ?_ _ | refine blk_drew ?_ | refine blk_alloc ?_ _)); exact BK405.out) hb); have n4_ := Aside0.mk (below_step (by repeat (first | (with_reducible first | exact HB.out | apply below_alloc | apply pw_below_drewN | apply below_drew1 | refine below_set ?_ GE405.out) | exact HB.out)) hb); clear HO_5; clear HO_406001; clear BK405; clear HB; have HO_5 := n0_; have HO_406001 := n1_; have HO427 := n2_; have BK405 := n3_; have HB := n4_; clear n0_ n1_ n2_ n3_ n4_; clear hb ho41; have hcv42 := own_string (P := Try.prog) Try.underlying56 Try.underlying5 Try.underlying9 (Kd.own_of_R HO427.out)))
                                  go_roundg kj17
                                  case measure => have := HK1.out; have := HK2.out; have := HJ17.out; omega
                                  case rel => exact ⟨((strOfNums y425) ++ ((⟨#[46]⟩ : ByteArray) ++ x4_2)), (wrap64 (x6_2 + 1)), (by first | rfl | (simp; done) | (simp [*]; done)), (by first | rfl | (simp; done) | (simp [*]; done)), H', ⟨by have := HK1.out; have := HK2.out; have := HJ17.out; omega⟩, ⟨by (with_reducible repeat (first | apply Kd.R_alloc | apply Kd.R_drewN | apply Kd.R_drew)); exact HO_5.out⟩, ⟨by (with_reducible repeat (first | apply Kd.R_alloc | apply Kd.R_drewN | apply Kd.R_drew)); exact HO_406001.out⟩, ⟨by (with_reducible repeat (first | refine blk_drewN ?_ _ | refine blk_drew ?_ | refine blk_alloc ?_ _)); exact BK405.out⟩, ⟨by repeat (first | (with_reducible first | exact HB.out | apply below_alloc | apply pw_below_drewN | apply below_drew1 | refine below_set ?_ GE405.out) | exact HB.out)⟩⟩
                                · rw [if_neg c39] at H
                                  exact absurd H (by simp)
                              · rw [if_neg c38] at H
                                exact absurd H (by simp)
                            · rw [if_neg c37] at H
                              exact absurd H (by simp)
                      · rw [if_neg c21] at H
                        exact absurd H (by simp)
                    · replace c20 := Bool.eq_false_iff.mpr c20
                      subst c20
                      have H1 : (if x6_2 ≥ 6 then (if 0 ≤ x6_2 then (if x6_2 < (x5_1.length : Int) then ((some (([(48 + ((rd x5_1 x6_2) % 256)) % 256] : List Int) : List Int)).bind fun y429 => (if (strOfNums y429).size + x4_2.size ≤ 9223372036854775807 then (aukletref01_Show.l1 kj17 ((strOfNums y429) ++ x4_2) x5_1 (wrap64 (x6_2 + 1)) t401 t402) else (none))) else (none)) else (none)) else (if x4_2.toList = ([] : List UInt8) then (if 0 ≤ x6_2 then (if x6_2 < (x5_1.length : Int) then (if (rd x5_1 x6_2) > 0 then ((some (([(48 + ((rd x5_1 x6_2) % 256)) % 256] : List Int) : List Int)).bind fun y434 => (if (strOfNums y434).size + x4_2.size ≤ 9223372036854775807 then (aukletref01_Show.l1 kj17 ((strOfNums y434) ++ x4_2) x5_1 (wrap64 (x6_2 + 1)) t401 t402) else (none))) else (aukletref01_Show.l1 kj17 x4_2 x5_1 (wrap64 (x6_2 + 1)) t401 t402)) else (none)) else (none)) else (if 0 ≤ x6_2 then (if x6_2 < (x5_1.length : Int) then ((some (([(48 + ((rd x5_1 x6_2) % 256)) % 256] : List Int) : List Int)).bind fun y438 => (if (strOfNums y438).size + x4_2.size ≤ 9223372036854775807 then (aukletref01_Show.l1 kj17 ((strOfNums y438) ++ x4_2) x5_1 (wrap64 (x6_2 + 1)) t401 t402) else (none))) else (none)) else (none)))) = some r := by rw [if_neg (show ¬ (false = true) by decide)] at H; exact H
                      clear H
                      have H := H1
                      clear H1
                      by_cases c43 : x6_2 ≥ 6
                      · rw [if_pos c43] at H
                        have c43b0 : decide (6 ≤ x6_2) = true := decide_eq_true c43
                        clear c43
                        by_cases c44 : 0 ≤ x6_2
                        · rw [if_pos c44] at H
                          have c44b0 : decide (0 ≤ x6_2) = true := decide_eq_true c44
                          clear c44
                          by_cases c45 : x6_2 < (x5_1.length : Int)
                          · rw [if_pos c45] at H
                            have c45b0 : decide (x6_2 < (x5_1.length : Int)) = true := decide_eq_true c45
                            clear c45
                            obtain ⟨y429, hy429⟩ : ∃ y_ : List Int, y_ = (([(48 + ((rd x5_1 x6_2) % 256)) % 256] : List Int)) := ⟨_, rfl⟩
                            replace H : (if (strOfNums y429).size + x4_2.size ≤ 9223372036854775807 then (aukletref01_Show.l1 kj17 ((strOfNums y429) ++ x4_2) x5_1 (wrap64 (x6_2 + 1)) t401 t402) else (none)) = some r := by first | (rw [hy429]; with_reducible exact H) | (have H2_ := (Option.bind_some _ _).symm.trans H; rw [hy429]; with_reducible exact H2_) | (have H2_ := (Option.bind_some _ _).symm.trans H; with_reducible exact H2_) | with_reducible exact H | (rw [hy429]; exact H) | exact H
                            have Ny429 := Aside0.mk hy429
                            clear hy429
                            by_cases c46 : (strOfNums y429).size + x4_2.size ≤ 9223372036854775807
                            · rw [if_pos c46] at H
                              have c46b0 := eq_true c46
                              have c46b1 : decide ((strOfNums y429).size + x4_2.size ≤ 9223372036854775807) = true := decide_eq_true c46
                              try have c46b2 : (9223372036854775807 < (strOfNums y429).size + x4_2.size) = False := eq_false (Nat.not_lt.2 c46)
                              have H' := Aside0.mk H
                              clear H
                              have p428 : 0 ≤ (x6_2 : Int) := of_decide_eq_true (by first | (with_reducible assumption) | assumption)
                              have q428 : x6_2 < (x5_1.length : Int) := of_decide_eq_true (by first | (with_reducible assumption) | assumption)
                              obtain ⟨ad428, e428, hx428_0⟩ := Kd.at_int (Kd.R_reads' HO_5.out).2.2 x6_2 p428 q428
                              cases e428
                              replace p428 := eq_true p428
                              replace q428 := eq_true q428
                              go_wp2_with (first | ((with_reducible refine gate_dst (N := 52) rfl ?_); refine Kd.R_lit (Kd.int .u8) _ 5 ?hg (N := 52) ?hd (xs := ([(48 + ((rd x5_1 x6_2) % 256)) % 256] : List Int)) (inner := [.int .u8 ((48 + ((rd x5_1 x6_2) % 256)) % 256)]) (ok := fun _ => True) (okp := fun _ => True) ?hr ?hp (fun _ hk => hk) trivial (Below.refl _ _) (Nat.le_refl _) (by simp) ?_; (case hd => rfl); (case hg => rfl); (case hr => first | (go_simp; done) | (go_simp; rfl)); (case hp => exact (Reps.one (show Kd.M (Kd.int .u8) _ _ _ ((48 + ((rd x5_1 x6_2) % 256)) % 256) [.int .u8 ((48 + ((rd x5_1 x6_2) % 256)) % 256)] from rfl) (Reps.none _ _))); intro v430 w47 ho48 hb hg_ hnew_; clear hg_ hnew_; (first | rw [← Ny429.out] at ho48 | (simp only [Int.reduceToNat] at ho48; rw [← Ny429.out] at ho48)); have n0_ := Aside0.mk (Kd.R_below (by (with_reducible repeat (first | apply Kd.R_alloc | apply Kd.R_drewN | apply Kd.R_drew)); exact HO_5.out) hb); have n1_ := Aside0.mk (Kd.R_below (by (with_reducible repeat (first | apply Kd.R_alloc | apply Kd.R_drewN | apply Kd.R_drew)); exact HO_406001.out) hb); have n2_ := Aside0.mk (Kd.R_lower ho48 (below_size (by repeat (first | (with_reducible first | exact HB.out | apply below_alloc | apply pw_below_drewN | apply below_drew1 | refine below_set ?_ GE405.out) | exact HB.out)))); have n3_ := Aside0.mk (blk_below (g := gb405) (o := .cells #[.bool t401, .slice Ao7 t402.length co7] 40 (0, 0)) (by (with_reducible repeat (first | refine blk_drewN ?_ _ | refine blk_drew ?_ | refine blk_alloc ?_ _)); exact BK405.out) hb); have n4_ := Aside0.mk (below_step (by repeat (first | (with_reducible first | exact HB.out | apply below_alloc | apply pw_below_drewN | apply below_drew1 | refine below_set ?_ GE405.out) | exact HB.out)) hb); clear HO_5; clear HO_406001; clear BK405; clear HB; have HO_5 := n0_; have HO_406001 := n1_; have HO431 := n2_; have BK405 := n3_; have HB := n4_; clear n0_ n1_ n2_ n3_ n4_; clear hb ho48; have hcv49 := own_string (P := Try.prog) Try.underlying56 Try.underlying5 Try.underlying9 (Kd.own_of_R HO431.out)))
                              go_roundg kj17
                              case measure => have := HK1.out; have := HK2.out; have := HJ17.out; omega
                              case rel => exact ⟨((strOfNums y429) ++ x4_2), (wrap64 (x6_2 + 1)), (by first | rfl | (simp; done) | (simp [*]; done)), (by first | rfl | (simp; done) | (simp [*]; done)), H', ⟨by have := HK1.out; have := HK2.out; have := HJ17.out; omega⟩, ⟨by (with_reducible repeat (first | apply Kd.R_alloc | apply Kd.R_drewN | apply Kd.R_drew)); exact HO_5.out⟩, ⟨by (with_reducible repeat (first | apply Kd.R_alloc | apply Kd.R_drewN | apply Kd.R_drew)); exact HO_406001.out⟩, ⟨by (with_reducible repeat (first | refine blk_drewN ?_ _ | refine blk_drew ?_ | refine blk_alloc ?_ _)); exact BK405.out⟩, ⟨by repeat (first | (with_reducible first | exact HB.out | apply below_alloc | apply pw_below_drewN | apply below_drew1 | refine below_set ?_ GE405.out) | exact HB.out)⟩⟩
                            · rw [if_neg c46] at H
                              exact absurd H (by simp)
                          · rw [if_neg c45] at H
                            exact absurd H (by simp)
                        · rw [if_neg c44] at H
                          exact absurd H (by simp)
                      · rw [if_neg c43] at H
                        have c43b0 : decide (6 ≤ x6_2) = false := decide_eq_false c43
                        clear c43
                        by_cases c50 : x4_2.toList = ([] : List UInt8)
                        · rw [if_pos c50] at H
                          have c50b0 : (x4_2.toList == ([] : List UInt8)) = true := beq_iff_eq.mpr c50
                          have c50b1 : (x4_2.toList != ([] : List UInt8)) = false := bne_eq_false_iff_eq.mpr c50
                          clear c50
                          by_cases c51 : 0 ≤ x6_2
                          · rw [if_pos c51] at H
                            have c51b0 : decide (0 ≤ x6_2) = true := decide_eq_true c51
                            clear c51
                            by_cases c52 : x6_2 < (x5_1.length : Int)
                            · rw [if_pos c52] at H
                              have c52b0 : decide (x6_2 < (x5_1.length : Int)) = true := decide_eq_true c52
                              clear c52
                              by_cases c53 : (rd x5_1 x6_2) > 0
                              · rw [if_pos c53] at H
                                have c53b0 : decide (0 < (rd x5_1 x6_2)) = true := decide_eq_true c53
                                clear c53
                                obtain ⟨y434, hy434⟩ : ∃ y_ : List Int, y_ = (([(48 + ((rd x5_1 x6_2) % 256)) % 256] : List Int)) := ⟨_, rfl⟩
                                replace H : (if (strOfNums y434).size + x4_2.size ≤ 9223372036854775807 then (aukletref01_Show.l1 kj17 ((strOfNums y434) ++ x4_2) x5_1 (wrap64 (x6_2 + 1)) t401 t402) else (none)) = some r := by first | (rw [hy434]; with_reducible exact H) | (have H2_ := (Option.bind_some _ _).symm.trans H; rw [hy434]; with_reducible exact H2_) | (have H2_ := (Option.bind_some _ _).symm.trans H; with_reducible exact H2_) | with_reducible exact H | (rw [hy434]; exact H) | exact H
                                have Ny434 := Aside0.mk hy434
                                clear hy434
                                by_cases c54 : (strOfNums y434).size + x4_2.size ≤ 9223372036854775807
                                · rw [if_pos c54] at H
                                  have c54b0 := eq_true c54
                                  have c54b1 : decide ((strOfNums y434).size + x4_2.size ≤ 9223372036854775807) = true := decide_eq_true c54
                                  try have c54b2 : (9223372036854775807 < (strOfNums y434).size + x4_2.size) = False := eq_false (Nat.not_lt.2 c54)
                                  have H' := Aside0.mk H
                                  clear H
                                  have p432 : 0 ≤ (x6_2 : Int) := of_decide_eq_true (by first | (with_reducible assumption) | assumption)
                                  have q432 : x6_2 < (x5_1.length : Int) := of_decide_eq_true (by first | (with_reducible assumption) | assumption)
                                  obtain ⟨ad432, e432, hx432_0⟩ := Kd.at_int (Kd.R_reads' HO_5.out).2.2 x6_2 p432 q432
                                  cases e432
                                  replace p432 := eq_true p432
                                  replace q432 := eq_true q432
                                  have p433 : 0 ≤ (x6_2 : Int) := of_decide_eq_true (by first | (with_reducible assumption) | assumption)
                                  have q433 : x6_2 < (x5_1.length : Int) := of_decide_eq_true (by first | (with_reducible assumption) | assumption)
                                  obtain ⟨ad433, e433, hx433_0⟩ := Kd.at_int (Kd.R_reads' HO_5.out).2.2 x6_2 p433 q433
                                  obtain rfl : ad432 = ad433 := (by injection e433)
                                  replace p433 := eq_true p433
                                  replace q433 := eq_true q433
                                  go_wp2_with (first | ((with_reducible refine gate_dst (N := 52) rfl ?_); refine Kd.R_lit (Kd.int .u8) _ 5 ?hg (N := 52) ?hd (xs := ([(48 + ((rd x5_1 x6_2) % 256)) % 256] : List Int)) (inner := [.int .u8 ((48 + ((rd x5_1 x6_2) % 256)) % 256)]) (ok := fun _ => True) (okp := fun _ => True) ?hr ?hp (fun _ hk => hk) trivial (Below.refl _ _) (Nat.le_refl _) (by simp) ?_; (case hd => rfl); (case hg => rfl); (case hr => first | (go_simp; done) | (go_simp; rfl)); (case hp => exact (Reps.one (show Kd.M (Kd.int .u8) _ _ _ ((48 + ((rd x5_1 x6_2) % 256)) % 256) [.int .u8 ((48 + ((rd x5_1 x6_2) % 256)) % 256)] from rfl) (Reps.none _ _))); intro v435 w55 ho56 hb hg_ hnew_; clear hg_ hnew_; (first | rw [← Ny434.out] at ho56 | (simp only [Int.reduceToNat] at ho56; rw [← Ny434.out] at ho56)); have n0_ := Aside0.mk (Kd.R_below (by (with_reducible repeat (first | apply Kd.R_alloc | apply Kd.R_drewN | apply Kd.R_drew)); exact HO_5.out) hb); have n1_ := Aside0.mk (Kd.R_below (by (with_reducible repeat (first | apply Kd.R_alloc | apply Kd.R_drewN | apply Kd.R_drew)); exact HO_406001.out) hb); have n2_ := Aside0.mk (Kd.R_lower ho56 (below_size (by repeat (first | (with_reducible first | exact HB.out | apply below_alloc | apply pw_below_drewN | apply below_drew1 | refine below_set ?_ GE405.out) | exact HB.out)))); have n3_ := Aside0.mk (blk_below (g := gb405) (o := .cells #[.bool t401, .slice Ao7 t402.length co7] 40 (0, 0)) (by (with_reducible repeat (first | refine blk_drewN ?_ _ | refine blk_drew ?_ | refine blk_alloc ?_ _)); exact BK405.out) hb); have n4_ := Aside0.mk (below_step (by repeat (first | (with_reducible first | exact HB.out | apply below_alloc | apply pw_below_drewN | apply below_drew1 | refine below_set ?_ GE405.out) | exact HB.out)) hb); clear HO_5; clear HO_406001; clear BK405; clear HB; have HO_5 := n0_; have HO_406001 := n1_; have HO436 := n2_; have BK405 := n3_; have HB := n4_; clear n0_ n1_ n2_ n3_ n4_; clear hb ho56; have hcv57 := own_string (P := Try.prog) Try.underlying56 Try.underlying5 Try.underlying9 (Kd.own_of_R HO436.out)))
                                  go_roundg kj17
                                  case measure => have := HK1.out; have := HK2.out; have := HJ17.out; omega
                                  case rel => exact ⟨((strOfNums y434) ++ x4_2), (wrap64 (x6_2 + 1)), (by first | rfl | (simp; done) | (simp [*]; done)), (by first | rfl | (simp; done) | (simp [*]; done)), H', ⟨by have := HK1.out; have := HK2.out; have := HJ17.out; omega⟩, ⟨by (with_reducible repeat (first | apply Kd.R_alloc | apply Kd.R_drewN | apply Kd.R_drew)); exact HO_5.out⟩, ⟨by (with_reducible repeat (first | apply Kd.R_alloc | apply Kd.R_drewN | apply Kd.R_drew)); exact HO_406001.out⟩, ⟨by (with_reducible repeat (first | refine blk_drewN ?_ _ | refine blk_drew ?_ | refine blk_alloc ?_ _)); exact BK405.out⟩, ⟨by repeat (first | (with_reducible first | exact HB.out | apply below_alloc | apply pw_below_drewN | apply below_drew1 | refine below_set ?_ GE405.out) | exact HB.out)⟩⟩
                                · rw [if_neg c54] at H
                                  exact absurd H (by simp)
                              · rw [if_neg c53] at H
                                have c53b0 : decide (0 < (rd x5_1 x6_2)) = false := decide_eq_false c53
                                clear c53
                                have H' := Aside0.mk H
                                clear H
                                have p432 : 0 ≤ (x6_2 : Int) := of_decide_eq_true (by first | (with_reducible assumption) | assumption)
                                have q432 : x6_2 < (x5_1.length : Int) := of_decide_eq_true (by first | (with_reducible assumption) | assumption)
                                obtain ⟨ad432, e432, hx432_0⟩ := Kd.at_int (Kd.R_reads' HO_5.out).2.2 x6_2 p432 q432
                                cases e432
                                replace p432 := eq_true p432
                                replace q432 := eq_true q432
                                go_wp2
                                go_roundg kj17
                                case measure => have := HK1.out; have := HK2.out; have := HJ17.out; omega
                                case rel => exact ⟨(x4_2), (wrap64 (x6_2 + 1)), (by first | rfl | (simp; done) | (simp [*]; done)), (by first | rfl | (simp; done) | (simp [*]; done)), H', ⟨by have := HK1.out; have := HK2.out; have := HJ17.out; omega⟩, ⟨by (with_reducible repeat (first | apply Kd.R_alloc | apply Kd.R_drewN | apply Kd.R_drew)); exact HO_5.out⟩, ⟨by (with_reducible repeat (first | apply Kd.R_alloc | apply Kd.R_drewN | apply Kd.R_drew)); exact HO_406001.out⟩, ⟨by (with_reducible repeat (first | refine blk_drewN ?_ _ | refine blk_drew ?_ | refine blk_alloc ?_ _)); exact BK405.out⟩, ⟨by repeat (first | (with_reducible first | exact HB.out | apply below_alloc | apply pw_below_drewN | apply below_drew1 | refine below_set ?_ GE405.out) | exact HB.out)⟩⟩
                            · rw [if_neg c52] at H
                              exact absurd H (by simp)
                          · rw [if_neg c51] at H
                            exact absurd H (by simp)
                        · rw [if_neg c50] at H
                          have c50b0 : (x4_2.toList == ([] : List UInt8)) = false := beq_eq_false_iff_ne.mpr c50
                          have c50b1 : (x4_2.toList != ([] : List UInt8)) = true := bne_iff_ne.mpr c50
                          by_cases c58 : 0 ≤ x6_2
                          · rw [if_pos c58] at H
                            have c58b0 : decide (0 ≤ x6_2) = true := decide_eq_true c58
                            clear c58
                            by_cases c59 : x6_2 < (x5_1.length : Int)
                            · rw [if_pos c59] at H
                              have c59b0 : decide (x6_2 < (x5_1.length : Int)) = true := decide_eq_true c59
                              clear c59
                              obtain ⟨y438, hy438⟩ : ∃ y_ : List Int, y_ = (([(48 + ((rd x5_1 x6_2) % 256)) % 256] : List Int)) := ⟨_, rfl⟩
                              replace H : (if (strOfNums y438).size + x4_2.size ≤ 9223372036854775807 then (aukletref01_Show.l1 kj17 ((strOfNums y438) ++ x4_2) x5_1 (wrap64 (x6_2 + 1)) t401 t402) else (none)) = some r := by first | (rw [hy438]; with_reducible exact H) | (have H2_ := (Option.bind_some _ _).symm.trans H; rw [hy438]; with_reducible exact H2_) | (have H2_ := (Option.bind_some _ _).symm.trans H; with_reducible exact H2_) | with_reducible exact H | (rw [hy438]; exact H) | exact H
                              have Ny438 := Aside0.mk hy438
                              clear hy438
                              by_cases c60 : (strOfNums y438).size + x4_2.size ≤ 9223372036854775807
                              · rw [if_pos c60] at H
                                have c60b0 := eq_true c60
                                have c60b1 : decide ((strOfNums y438).size + x4_2.size ≤ 9223372036854775807) = true := decide_eq_true c60
                                try have c60b2 : (9223372036854775807 < (strOfNums y438).size + x4_2.size) = False := eq_false (Nat.not_lt.2 c60)
                                have H' := Aside0.mk H
                                clear H
                                have p437 : 0 ≤ (x6_2 : Int) := of_decide_eq_true (by first | (with_reducible assumption) | assumption)
                                have q437 : x6_2 < (x5_1.length : Int) := of_decide_eq_true (by first | (with_reducible assumption) | assumption)
                                obtain ⟨ad437, e437, hx437_0⟩ := Kd.at_int (Kd.R_reads' HO_5.out).2.2 x6_2 p437 q437
                                cases e437
                                replace p437 := eq_true p437
                                replace q437 := eq_true q437
                                go_wp2_with (first | ((with_reducible refine gate_dst (N := 52) rfl ?_); refine Kd.R_lit (Kd.int .u8) _ 5 ?hg (N := 52) ?hd (xs := ([(48 + ((rd x5_1 x6_2) % 256)) % 256] : List Int)) (inner := [.int .u8 ((48 + ((rd x5_1 x6_2) % 256)) % 256)]) (ok := fun _ => True) (okp := fun _ => True) ?hr ?hp (fun _ hk => hk) trivial (Below.refl _ _) (Nat.le_refl _) (by simp) ?_; (case hd => rfl); (case hg => rfl); (case hr => first | (go_simp; done) | (go_simp; rfl)); (case hp => exact (Reps.one (show Kd.M (Kd.int .u8) _ _ _ ((48 + ((rd x5_1 x6_2) % 256)) % 256) [.int .u8 ((48 + ((rd x5_1 x6_2) % 256)) % 256)] from rfl) (Reps.none _ _))); intro v439 w61 ho62 hb hg_ hnew_; clear hg_ hnew_; (first | rw [← Ny438.out] at ho62 | (simp only [Int.reduceToNat] at ho62; rw [← Ny438.out] at ho62)); have n0_ := Aside0.mk (Kd.R_below (by (with_reducible repeat (first | apply Kd.R_alloc | apply Kd.R_drewN | apply Kd.R_drew)); exact HO_5.out) hb); have n1_ := Aside0.mk (Kd.R_below (by (with_reducible repeat (first | apply Kd.R_alloc | apply Kd.R_drewN | apply Kd.R_drew)); exact HO_406001.out) hb); have n2_ := Aside0.mk (Kd.R_lower ho62 (below_size (by repeat (first | (with_reducible first | exact HB.out | apply below_alloc | apply pw_below_drewN | apply below_drew1 | refine below_set ?_ GE405.out) | exact HB.out)))); have n3_ := Aside0.mk (blk_below (g := gb405) (o := .cells #[.bool t401, .slice Ao7 t402.length co7] 40 (0, 0)) (by (with_reducible repeat (first | refine blk_drewN ?_ _ | refine blk_drew ?_ | refine blk_alloc ?_ _)); exact BK405.out) hb); have n4_ := Aside0.mk (below_step (by repeat (first | (with_reducible first | exact HB.out | apply below_alloc | apply pw_below_drewN | apply below_drew1 | refine below_set ?_ GE405.out) | exact HB.out)) hb); clear HO_5; clear HO_406001; clear BK405; clear HB; have HO_5 := n0_; have HO_406001 := n1_; have HO440 := n2_; have BK405 := n3_; have HB := n4_; clear n0_ n1_ n2_ n3_ n4_; clear hb ho62; have hcv63 := own_string (P := Try.prog) Try.underlying56 Try.underlying5 Try.underlying9 (Kd.own_of_R HO440.out)))
                                go_roundg kj17
                                case measure => have := HK1.out; have := HK2.out; have := HJ17.out; omega
                                case rel => exact ⟨((strOfNums y438) ++ x4_2), (wrap64 (x6_2 + 1)), (by first | rfl | (simp; done) | (simp [*]; done)), (by first | rfl | (simp; done) | (simp [*]; done)), H', ⟨by have := HK1.out; have := HK2.out; have := HJ17.out; omega⟩, ⟨by (with_reducible repeat (first | apply Kd.R_alloc | apply Kd.R_drewN | apply Kd.R_drew)); exact HO_5.out⟩, ⟨by (with_reducible repeat (first | apply Kd.R_alloc | apply Kd.R_drewN | apply Kd.R_drew)); exact HO_406001.out⟩, ⟨by (with_reducible repeat (first | refine blk_drewN ?_ _ | refine blk_drew ?_ | refine blk_alloc ?_ _)); exact BK405.out⟩, ⟨by repeat (first | (with_reducible first | exact HB.out | apply below_alloc | apply pw_below_drewN | apply below_drew1 | refine below_set ?_ GE405.out) | exact HB.out)⟩⟩
                              · rw [if_neg c60] at H
                                exact absurd H (by simp)
                            · rw [if_neg c59] at H
                              exact absurd H (by simp)
                          · rw [if_neg c58] at H
                            exact absurd H (by simp)
              · rw [if_neg c17] at H
                have c17b0 : decide (x6_2 < (x5_1.length : Int)) = false := decide_eq_false c17
                clear c17
                by_cases c64 : t401 = true
                · subst c64
                  have H1 : (if 1 + x4_2.size ≤ 9223372036854775807 then (some ((⟨#[45]⟩ : ByteArray) ++ x4_2)) else (none)) = some r := by rw [if_pos rfl] at H; exact H
                  clear H
                  have H := H1
                  clear H1
                  by_cases c65 : 1 + x4_2.size ≤ 9223372036854775807
                  · rw [if_pos c65] at H
                    have c65b0 := eq_true c65
                    have c65b1 : decide (1 + x4_2.size ≤ 9223372036854775807) = true := decide_eq_true c65
                    try have c65b2 : (9223372036854775807 < 1 + x4_2.size) = False := eq_false (Nat.not_lt.2 c65)
                    obtain rfl := Option.some.inj H
                    have hcz66_0 : wr.cell? ⟨gb405, 0, none⟩ = some (.bool true) := (blk_cell BK405.out 0).trans rfl
                    have hcz66_1 : wr.cell? ⟨gb405, 1, none⟩ = some (.slice Ao7 t402.length co7) := (blk_cell BK405.out 1).trans rfl
                    have hfz66_0 := blk_frozen BK405.out 0
                    have hfz66_1 := blk_frozen BK405.out 1
                    go_wp2
                    go_ret
                    exact ⟨by first | rfl | (simp [errW_none, errW_some] <;> rfl) | (simp [*, errW_none, errW_some] <;> rfl), by repeat (first | (with_reducible first | exact HB.out | apply below_alloc | apply pw_below_drewN | apply below_drew1 | refine below_set ?_ GE405.out) | exact HB.out)⟩
                  · rw [if_neg c65] at H
                    exact absurd H (by simp)
                · replace c64 := Bool.eq_false_iff.mpr c64
                  subst c64
                  have H1 : (some x4_2) = some r := by rw [if_neg (show ¬ (false = true) by decide)] at H; exact H
                  clear H
                  have H := H1
                  clear H1
                  obtain rfl := Option.some.inj H
                  have hcz67_0 : wr.cell? ⟨gb405, 0, none⟩ = some (.bool false) := (blk_cell BK405.out 0).trans rfl
                  have hcz67_1 : wr.cell? ⟨gb405, 1, none⟩ = some (.slice Ao7 t402.length co7) := (blk_cell BK405.out 1).trans rfl
                  have hfz67_0 := blk_frozen BK405.out 0
                  have hfz67_1 := blk_frozen BK405.out 1
                  go_wp2
                  go_ret
                  exact ⟨by first | rfl | (simp [errW_none, errW_some] <;> rfl) | (simp [*, errW_none, errW_some] <;> rfl), by repeat (first | (with_reducible first | exact HB.out | apply below_alloc | apply pw_below_drewN | apply below_drew1 | refine below_set ?_ GE405.out) | exact HB.out)⟩
  · rw [if_neg c3] at H
    exact absurd H (by simp)

/-! ### aukletlaw01_DecShows: function 5 -/
mutual
def aukletlaw01_DecShows.j0 : Nat → Int → ByteArray → ByteArray → Bool → Option (Bool)
  | 0, _, _, _, _ => none
  | k + 1, x0, x1, x5, x38 => if x38 = true then (some false) else (if x1.toList = ([] : List UInt8) then (aukletlaw01_DecShows.j1 k x0 x1 x5 false) else (if 0 < (x1.size : Int) then (if (bt x1 0) = 46 then (aukletlaw01_DecShows.j1 k x0 x1 x5 true) else (if (bt x1 0) ≥ 48 then (aukletlaw01_DecShows.j1 k x0 x1 x5 (decide ((bt x1 0) ≤ 57))) else (aukletlaw01_DecShows.j1 k x0 x1 x5 false))) else (none)))
def aukletlaw01_DecShows.j1 : Nat → Int → ByteArray → ByteArray → Bool → Option (Bool)
  | 0, _, _, _, _ => none
  | k + 1, x0, x1, x5, x55 => if x55 = true then ((aukletlaw01_lives.f k).bind fun t446 => (some t446)) else (if 1 + x5.size ≤ 9223372036854775807 then (if ((⟨#[9]⟩ : ByteArray) ++ x5).size + x1.size ≤ 9223372036854775807 then ((dec_Parse.f (((⟨#[9]⟩ : ByteArray) ++ x5) ++ x1)).bind fun bt447 => (if bt447.1 = x0 then (if bt447.2.1 = (wrap64 ((x5.size : Int) + 1)) then (if bt447.2.2 = 0 then ((aukletlaw01_lives.f k).bind fun t450 => (some t450)) else (some false)) else (some false)) else (some false))) else (none)) else (none))
end
def aukletlaw01_DecShows.f (k : Nat) (a0 : Int) (a1 : ByteArray) : Option (Bool) := (dec_Show.f a0).bind fun t441 => ((dec_Parse.f t441).bind fun bt442 => ((aukletref01_Show.f k a0).bind fun t445 => (if t441.toList = t445.toList then (if bt442.1 = a0 then (if bt442.2.1 = (t441.size : Int) then (aukletlaw01_DecShows.j0 k a0 a1 t441 (bt442.2.2 != 0)) else (aukletlaw01_DecShows.j0 k a0 a1 t441 true)) else (aukletlaw01_DecShows.j0 k a0 a1 t441 true)) else (aukletlaw01_DecShows.j0 k a0 a1 t441 true))))
theorem aukletlaw01_DecShows.mono_l : ∀ k, (∀ y0 y1 y2 y3, LeO (aukletlaw01_DecShows.j0 k y0 y1 y2 y3) (aukletlaw01_DecShows.j0 (k + 1) y0 y1 y2 y3)) ∧ (∀ y0 y1 y2 y3, LeO (aukletlaw01_DecShows.j1 k y0 y1 y2 y3) (aukletlaw01_DecShows.j1 (k + 1) y0 y1 y2 y3))
  | 0 => ⟨fun _ _ _ _ r h => by simp [aukletlaw01_DecShows.j0] at h, fun _ _ _ _ r h => by simp [aukletlaw01_DecShows.j1] at h⟩
  | k + 1 => by
    obtain ⟨ih0, ih1⟩ := aukletlaw01_DecShows.mono_l k
    refine ⟨?_, ?_⟩
    · intro y0 y1 y2 y3
      unfold aukletlaw01_DecShows.j0
      repeat' first
      | (with_reducible exact ih0 _ _ _ _)
      | (with_reducible exact ih1 _ _ _ _)
      | (with_reducible exact aukletlaw01_lives.mono _)
      | (with_reducible exact aukletref01_Show.mono _ _)
      | (with_reducible exact LeO.refl _)
      | (with_reducible exact LeO.none _)
      | (with_reducible refine LeO.ite ?_ ?_)
      | (with_reducible refine LeO.bind ?_ (fun _ => ?_))
      | exact ih0 _ _ _ _
      | exact ih1 _ _ _ _
      | exact aukletlaw01_lives.mono _
      | exact aukletref01_Show.mono _ _
      | exact LeO.none _
      | refine LeO.ite ?_ ?_
      | refine LeO.bind ?_ (fun _ => ?_)
    · intro y0 y1 y2 y3
      unfold aukletlaw01_DecShows.j1
      repeat' first
      | (with_reducible exact ih0 _ _ _ _)
      | (with_reducible exact ih1 _ _ _ _)
      | (with_reducible exact aukletlaw01_lives.mono _)
      | (with_reducible exact aukletref01_Show.mono _ _)
      | (with_reducible exact LeO.refl _)
      | (with_reducible exact LeO.none _)
      | (with_reducible refine LeO.ite ?_ ?_)
      | (with_reducible refine LeO.bind ?_ (fun _ => ?_))
      | exact ih0 _ _ _ _
      | exact ih1 _ _ _ _
      | exact aukletlaw01_lives.mono _
      | exact aukletref01_Show.mono _ _
      | exact LeO.none _
      | refine LeO.ite ?_ ?_
      | refine LeO.bind ?_ (fun _ => ?_)
theorem aukletlaw01_DecShows.mono : ∀ a0 a1 k, LeO (aukletlaw01_DecShows.f k a0 a1) (aukletlaw01_DecShows.f (k + 1) a0 a1) := by
  intro a0 a1 k
  obtain ⟨ih0, ih1⟩ := aukletlaw01_DecShows.mono_l k
  unfold aukletlaw01_DecShows.f
  repeat' first
      | (with_reducible exact ih0 _ _ _ _)
      | (with_reducible exact ih1 _ _ _ _)
      | (with_reducible exact aukletlaw01_lives.mono _)
      | (with_reducible exact aukletref01_Show.mono _ _)
      | (with_reducible exact LeO.refl _)
      | (with_reducible exact LeO.none _)
      | (with_reducible refine LeO.ite ?_ ?_)
      | (with_reducible refine LeO.bind ?_ (fun _ => ?_))
      | exact ih0 _ _ _ _
      | exact ih1 _ _ _ _
      | exact aukletlaw01_lives.mono _
      | exact aukletref01_Show.mono _ _
      | exact LeO.none _
      | refine LeO.ite ?_ ?_
      | refine LeO.bind ?_ (fun _ => ?_)
set_option maxHeartbeats 8000000 in
set_option maxRecDepth 100000 in
theorem aukletlaw01_DecShows.calls (k : Nat) (a0 : Int) (a1 : ByteArray) (r : Bool) (w : World) (h : aukletlaw01_DecShows.f k a0 a1 = some r) :
    Calls Try.prog 5 #[.int .i64 a0, .string a1] w fun e w' => e = .returned (.bool r) ∧ Below w.heap.size w w' := by
  have HB := Aside0.mk (Below.refl w.heap.size w)
  have H : ((dec_Show.f a0).bind fun t441 => ((dec_Parse.f t441).bind fun bt442 => ((aukletref01_Show.f k a0).bind fun t445 => (if t441.toList = t445.toList then (if bt442.1 = a0 then (if bt442.2.1 = (t441.size : Int) then (aukletlaw01_DecShows.j0 k a0 a1 t441 (bt442.2.2 != 0)) else (aukletlaw01_DecShows.j0 k a0 a1 t441 true)) else (aukletlaw01_DecShows.j0 k a0 a1 t441 true)) else (aukletlaw01_DecShows.j0 k a0 a1 t441 true))))) = some r := h
  clear h
  replace H := Option.bind_eq_some_iff.mp H
  obtain ⟨t441, A30, H⟩ := H
  replace H : ((dec_Parse.f t441).bind fun bt442 => ((aukletref01_Show.f k a0).bind fun t445 => (if t441.toList = t445.toList then (if bt442.1 = a0 then (if bt442.2.1 = (t441.size : Int) then (aukletlaw01_DecShows.j0 k a0 a1 t441 (bt442.2.2 != 0)) else (aukletlaw01_DecShows.j0 k a0 a1 t441 true)) else (aukletlaw01_DecShows.j0 k a0 a1 t441 true)) else (aukletlaw01_DecShows.j0 k a0 a1 t441 true)))) = some r := H
  have A3 := Aside0.mk A30
  clear A30
  replace H := Option.bind_eq_some_iff.mp H
  obtain ⟨⟨t442, t443, t444⟩, A40, H⟩ := H
  replace H : ((aukletref01_Show.f k a0).bind fun t445 => (if t441.toList = t445.toList then (if t442 = a0 then (if t443 = (t441.size : Int) then (aukletlaw01_DecShows.j0 k a0 a1 t441 (t444 != 0)) else (aukletlaw01_DecShows.j0 k a0 a1 t441 true)) else (aukletlaw01_DecShows.j0 k a0 a1 t441 true)) else (aukletlaw01_DecShows.j0 k a0 a1 t441 true))) = some r := H
  have A4 := Aside0.mk A40
  clear A40
  have HC5 := Aside0.mk H
  clear H
  go_enter Try.func5, Try.ntmps5
  go_upto_region 3 with (first | ((with_reducible refine gate_callee (f := 16) rfl ?_); refine goesL_ (some 13) rfl rfl Try.func16 (by kernel_rfl) rfl #[.int .i64 a0] rfl (by (try simp only [List.map_toArray, List.map_cons, List.map_nil]); first | done | rfl | (simp only [List.length_drop, List.length_take]; rfl)) ?_; (with_reducible refine (dec_Show.calls a0 t441 _ A3.out).mono ?_); rintro e w6 ⟨rfl, hb⟩; refine ⟨_, rfl, ?_⟩; have n0_ := Aside0.mk (below_step (by repeat (first | (with_reducible first | exact HB.out | apply below_alloc | apply pw_below_drewN | apply below_drew1) | exact HB.out)) hb); clear HB; have HB := n0_; clear n0_; (try clear hb); (try clear hb2); (try clear hk); (try clear hi)) | ((with_reducible refine gate_callee (f := 14) rfl ?_); refine goesL_ (some 16) rfl rfl Try.func14 (by kernel_rfl) rfl #[.string t441] rfl (by (try simp only [List.map_toArray, List.map_cons, List.map_nil]); first | done | rfl | (simp only [List.length_drop, List.length_take]; rfl)) ?_; (with_reducible refine (dec_Parse.calls t441 t442 t443 t444 _ A4.out).mono ?_); rintro e w7 ⟨rfl, hb⟩; refine ⟨_, rfl, ?_⟩; have n0_ := Aside0.mk (below_step (by repeat (first | (with_reducible first | exact HB.out | apply below_alloc | apply pw_below_drewN | apply below_drew1) | exact HB.out)) hb); clear HB; have HB := n0_; clear n0_; (try clear hb); (try clear hb2); (try clear hk); (try clear hi)))
  (try simp only [Act.put, List.setIfInBounds_toArray, List.set_cons_zero, List.set_cons_succ])
  go_cut [38] (fun v38 wc => ∃ (kq : Nat) (x38_4 : Bool), v38 = .bool x38_4 ∧ Aside0 (aukletlaw01_DecShows.j0 kq a0 a1 t441 x38_4 = some r) ∧ Aside0 (kq ≤ k) ∧ Aside0 (Below w.heap.size w wc))
  case first =>
    have H := HC5.out
    clear HC5
    replace H := Option.bind_eq_some_iff.mp H
    obtain ⟨t445, A80, H⟩ := H
    replace H : (if t441.toList = t445.toList then (if t442 = a0 then (if t443 = (t441.size : Int) then (aukletlaw01_DecShows.j0 k a0 a1 t441 (t444 != 0)) else (aukletlaw01_DecShows.j0 k a0 a1 t441 true)) else (aukletlaw01_DecShows.j0 k a0 a1 t441 true)) else (aukletlaw01_DecShows.j0 k a0 a1 t441 true)) = some r := H
    have A8 := Aside0.mk A80
    clear A80
    by_cases c9 : t441.toList = t445.toList
    · rw [if_pos c9] at H
      have c9b0 : (t441.toList == t445.toList) = true := beq_iff_eq.mpr c9
      have c9b1 : (t441.toList != t445.toList) = false := bne_eq_false_iff_eq.mpr c9
      clear c9
      (first | rw [c9b0] | (simp only [i64_w, i32_w]; rw [c9b0]) | skip)
      by_cases c10 : t442 = a0
      · rw [if_pos c10] at H
        have c10b0 : (t442 == a0) = true := beq_iff_eq.mpr c10
        have c10b1 : (t442 != a0) = false := bne_eq_false_iff_eq.mpr c10
        clear c10
        by_cases c11 : t443 = (t441.size : Int)
        · rw [if_pos c11] at H
          have c11b0 : (t443 == (t441.size : Int)) = true := beq_iff_eq.mpr c11
          have c11b1 : (t443 != (t441.size : Int)) = false := bne_eq_false_iff_eq.mpr c11
          clear c11
          have H' := Aside0.mk H
          clear H
          go_wp2_with (first | ((with_reducible refine gate_callee (f := 17) rfl ?_); refine goesL_ (some 22) rfl rfl Try.func17 (by kernel_rfl) rfl #[.int .i64 a0] rfl (by (try simp only [List.map_toArray, List.map_cons, List.map_nil]); first | done | rfl | (simp only [List.length_drop, List.length_take]; rfl)) ?_; (with_reducible refine (aukletref01_Show.calls k a0 t445 _ A8.out).mono ?_); rintro e w12 ⟨rfl, hb⟩; refine ⟨_, rfl, ?_⟩; have n0_ := Aside0.mk (below_step (by repeat (first | (with_reducible first | exact HB.out | apply below_alloc | apply pw_below_drewN | apply below_drew1) | exact HB.out)) hb); clear HB; have HB := n0_; clear n0_; (try clear hb); (try clear hb2); (try clear hk); (try clear hi)))
          go_meet
          case rel => exact ⟨_, ((t444 != 0)), (by first | rfl | (simp; done) | (simp [*]; done)), H', ⟨by first | omega | exact Nat.le_refl _⟩, ⟨by repeat (first | (with_reducible first | exact HB.out | apply below_alloc | apply pw_below_drewN | apply below_drew1) | exact HB.out)⟩⟩
        · rw [if_neg c11] at H
          have c11b0 : (t443 == (t441.size : Int)) = false := beq_eq_false_iff_ne.mpr c11
          have c11b1 : (t443 != (t441.size : Int)) = true := bne_iff_ne.mpr c11
          have H' := Aside0.mk H
          clear H
          go_wp2_with (first | ((with_reducible refine gate_callee (f := 17) rfl ?_); refine goesL_ (some 22) rfl rfl Try.func17 (by kernel_rfl) rfl #[.int .i64 a0] rfl (by (try simp only [List.map_toArray, List.map_cons, List.map_nil]); first | done | rfl | (simp only [List.length_drop, List.length_take]; rfl)) ?_; (with_reducible refine (aukletref01_Show.calls k a0 t445 _ A8.out).mono ?_); rintro e w13 ⟨rfl, hb⟩; refine ⟨_, rfl, ?_⟩; have n0_ := Aside0.mk (below_step (by repeat (first | (with_reducible first | exact HB.out | apply below_alloc | apply pw_below_drewN | apply below_drew1) | exact HB.out)) hb); clear HB; have HB := n0_; clear n0_; (try clear hb); (try clear hb2); (try clear hk); (try clear hi)))
          go_meet
          case rel => exact ⟨_, (true), (by first | rfl | (simp; done) | (simp [*]; done)), H', ⟨by first | omega | exact Nat.le_refl _⟩, ⟨by repeat (first | (with_reducible first | exact HB.out | apply below_alloc | apply pw_below_drewN | apply below_drew1) | exact HB.out)⟩⟩
      · rw [if_neg c10] at H
        have c10b0 : (t442 == a0) = false := beq_eq_false_iff_ne.mpr c10
        have c10b1 : (t442 != a0) = true := bne_iff_ne.mpr c10
        have H' := Aside0.mk H
        clear H
        go_wp2_with (first | ((with_reducible refine gate_callee (f := 17) rfl ?_); refine goesL_ (some 22) rfl rfl Try.func17 (by kernel_rfl) rfl #[.int .i64 a0] rfl (by (try simp only [List.map_toArray, List.map_cons, List.map_nil]); first | done | rfl | (simp only [List.length_drop, List.length_take]; rfl)) ?_; (with_reducible refine (aukletref01_Show.calls k a0 t445 _ A8.out).mono ?_); rintro e w14 ⟨rfl, hb⟩; refine ⟨_, rfl, ?_⟩; have n0_ := Aside0.mk (below_step (by repeat (first | (with_reducible first | exact HB.out | apply below_alloc | apply pw_below_drewN | apply below_drew1) | exact HB.out)) hb); clear HB; have HB := n0_; clear n0_; (try clear hb); (try clear hb2); (try clear hk); (try clear hi)))
        go_meet
        case rel => exact ⟨_, (true), (by first | rfl | (simp; done) | (simp [*]; done)), H', ⟨by first | omega | exact Nat.le_refl _⟩, ⟨by repeat (first | (with_reducible first | exact HB.out | apply below_alloc | apply pw_below_drewN | apply below_drew1) | exact HB.out)⟩⟩
    · rw [if_neg c9] at H
      have c9b0 : (t441.toList == t445.toList) = false := beq_eq_false_iff_ne.mpr c9
      have c9b1 : (t441.toList != t445.toList) = true := bne_iff_ne.mpr c9
      (first | rw [c9b0] | (simp only [i64_w, i32_w]; rw [c9b0]) | skip)
      have H' := Aside0.mk H
      clear H
      go_wp2_with (first | ((with_reducible refine gate_callee (f := 17) rfl ?_); refine goesL_ (some 22) rfl rfl Try.func17 (by kernel_rfl) rfl #[.int .i64 a0] rfl (by (try simp only [List.map_toArray, List.map_cons, List.map_nil]); first | done | rfl | (simp only [List.length_drop, List.length_take]; rfl)) ?_; (with_reducible refine (aukletref01_Show.calls k a0 t445 _ A8.out).mono ?_); rintro e w15 ⟨rfl, hb⟩; refine ⟨_, rfl, ?_⟩; have n0_ := Aside0.mk (below_step (by repeat (first | (with_reducible first | exact HB.out | apply below_alloc | apply pw_below_drewN | apply below_drew1) | exact HB.out)) hb); clear HB; have HB := n0_; clear n0_; (try clear hb); (try clear hb2); (try clear hk); (try clear hi)))
      go_meet
      case rel => exact ⟨_, (true), (by first | rfl | (simp; done) | (simp [*]; done)), H', ⟨by first | omega | exact Nat.le_refl _⟩, ⟨by repeat (first | (with_reducible first | exact HB.out | apply below_alloc | apply pw_below_drewN | apply below_drew1) | exact HB.out)⟩⟩
  case rest =>
    clear HC5
    try clear c1
    try clear p2
    try clear c5
    try clear c9
    try clear c9b0
    try clear c9b1
    try clear c10
    try clear c10b0
    try clear c10b1
    try clear c11
    try clear c11b0
    try clear c11b1
    try clear c14
    obtain ⟨kq, x38_4, rfl, HA, HJ4, HB⟩ := hcut
    cases kq with
    | zero => exact absurd HA.out (by simp [aukletlaw01_DecShows.j0])
    | succ kj4 =>
      have H := HA.out
      clear HA
      simp only [aukletlaw01_DecShows.j0] at H
      by_cases c16 : x38_4 = true
      · subst c16
        have H1 : (some false) = some r := by rw [if_pos rfl] at H; exact H
        clear H
        have H := H1
        clear H1
        obtain rfl := Option.some.inj H
        go_wp2
        go_ret
        exact ⟨by first | rfl | (simp [errW_none, errW_some] <;> rfl) | (simp [*, errW_none, errW_some] <;> rfl), by repeat (first | (with_reducible first | exact HB.out | apply below_alloc | apply pw_below_drewN | apply below_drew1) | exact HB.out)⟩
      · replace c16 := Bool.eq_false_iff.mpr c16
        subst c16
        have H1 : (if a1.toList = ([] : List UInt8) then (aukletlaw01_DecShows.j1 kj4 a0 a1 t441 false) else (if 0 < (a1.size : Int) then (if (bt a1 0) = 46 then (aukletlaw01_DecShows.j1 kj4 a0 a1 t441 true) else (if (bt a1 0) ≥ 48 then (aukletlaw01_DecShows.j1 kj4 a0 a1 t441 (decide ((bt a1 0) ≤ 57))) else (aukletlaw01_DecShows.j1 kj4 a0 a1 t441 false))) else (none))) = some r := by rw [if_neg (show ¬ (false = true) by decide)] at H; exact H
        clear H
        have H := H1
        clear H1
        have HC17 := Aside0.mk H
        clear H
        go_upto_region 5 with (fail)
        go_cut [55] (fun v55 wc => ∃ (kq : Nat) (x55_16 : Bool), v55 = .bool x55_16 ∧ Aside0 (aukletlaw01_DecShows.j1 kq a0 a1 t441 x55_16 = some r) ∧ Aside0 (kq ≤ kj4) ∧ Aside0 (Below w.heap.size w wc))
        case first =>
          have H := HC17.out
          clear HC17
          by_cases c18 : a1.toList = ([] : List UInt8)
          · rw [if_pos c18] at H
            have c18b0 : (a1.toList == ([] : List UInt8)) = true := beq_iff_eq.mpr c18
            have c18b1 : (a1.toList != ([] : List UInt8)) = false := bne_eq_false_iff_eq.mpr c18
            clear c18
            (first | rw [c18b0] | (simp only [i64_w, i32_w]; rw [c18b0]) | skip)
            have H' := Aside0.mk H
            clear H
            go_wp2
            go_meet
            case rel => exact ⟨_, (false), (by first | rfl | (simp; done) | (simp [*]; done)), H', ⟨by have := HJ4.out; first | omega | exact Nat.le_refl _⟩, ⟨by repeat (first | (with_reducible first | exact HB.out | apply below_alloc | apply pw_below_drewN | apply below_drew1) | exact HB.out)⟩⟩
          · rw [if_neg c18] at H
            have c18b0 : (a1.toList == ([] : List UInt8)) = false := beq_eq_false_iff_ne.mpr c18
            have c18b1 : (a1.toList != ([] : List UInt8)) = true := bne_iff_ne.mpr c18
            (first | rw [c18b0] | (simp only [i64_w, i32_w]; rw [c18b0]) | skip)
            by_cases c19 : 0 < (a1.size : Int)
            · rw [if_pos c19] at H
              have c19b0 : decide (0 < (a1.size : Int)) = true := decide_eq_true c19
              have c19b1 : decide (0 < a1.size) = true := decide_eq_true (by omega)
              clear c19
              by_cases c21 : (bt a1 0) = 46
              · rw [if_pos c21] at H
                have c21b0 : ((bt a1 0) == 46) = true := beq_iff_eq.mpr c21
                have c21b1 : ((bt a1 0) != 46) = false := bne_eq_false_iff_eq.mpr c21
                clear c21
                have H' := Aside0.mk H
                clear H
                have p20 : 0 ≤ (0 : Int) := (by omega)
                have q20 : 0 < a1.size := (by have : (0 : Int) < (a1.size : Int) := of_decide_eq_true (by first | (with_reducible assumption) | assumption); omega)
                have hx20 : ∀ h : 0 < a1.size, ((a1[0]'h).toNat : Int) = bt a1 0 := bt_at a1 0
                clear p20
                have qi20 : (0 < (a1.size : Int)) = True := eq_true (of_decide_eq_true (by first | (with_reducible assumption) | assumption))
                replace q20 := eq_true q20
                go_wp2
                go_meet
                case rel => exact ⟨_, (true), (by first | rfl | (simp; done) | (simp [*]; done)), H', ⟨by have := HJ4.out; first | omega | exact Nat.le_refl _⟩, ⟨by repeat (first | (with_reducible first | exact HB.out | apply below_alloc | apply pw_below_drewN | apply below_drew1) | exact HB.out)⟩⟩
              · rw [if_neg c21] at H
                have c21b0 : ((bt a1 0) == 46) = false := beq_eq_false_iff_ne.mpr c21
                have c21b1 : ((bt a1 0) != 46) = true := bne_iff_ne.mpr c21
                by_cases c23 : (bt a1 0) ≥ 48
                · rw [if_pos c23] at H
                  have c23b0 : decide (48 ≤ (bt a1 0)) = true := decide_eq_true c23
                  clear c23
                  have H' := Aside0.mk H
                  clear H
                  have p20 : 0 ≤ (0 : Int) := (by omega)
                  have q20 : 0 < a1.size := (by have : (0 : Int) < (a1.size : Int) := of_decide_eq_true (by first | (with_reducible assumption) | assumption); omega)
                  have hx20 : ∀ h : 0 < a1.size, ((a1[0]'h).toNat : Int) = bt a1 0 := bt_at a1 0
                  clear p20
                  have qi20 : (0 < (a1.size : Int)) = True := eq_true (of_decide_eq_true (by first | (with_reducible assumption) | assumption))
                  replace q20 := eq_true q20
                  have p22 : 0 ≤ (0 : Int) := (by omega)
                  have q22 : 0 < a1.size := (by have : (0 : Int) < (a1.size : Int) := of_decide_eq_true (by first | (with_reducible assumption) | assumption); omega)
                  have hx22 : ∀ h : 0 < a1.size, ((a1[0]'h).toNat : Int) = bt a1 0 := bt_at a1 0
                  clear p22
                  have qi22 : (0 < (a1.size : Int)) = True := eq_true (of_decide_eq_true (by first | (with_reducible assumption) | assumption))
                  replace q22 := eq_true q22
                  have p24 : 0 ≤ (0 : Int) := (by omega)
                  have q24 : 0 < a1.size := (by have : (0 : Int) < (a1.size : Int) := of_decide_eq_true (by first | (with_reducible assumption) | assumption); omega)
                  have hx24 : ∀ h : 0 < a1.size, ((a1[0]'h).toNat : Int) = bt a1 0 := bt_at a1 0
                  clear p24
                  have qi24 : (0 < (a1.size : Int)) = True := eq_true (of_decide_eq_true (by first | (with_reducible assumption) | assumption))
                  replace q24 := eq_true q24
                  go_wp2
                  go_meet
                  case rel => exact ⟨_, (decide ((bt a1 0) ≤ 57)), (by first | rfl | (simp; done) | (simp [*]; done)), H', ⟨by have := HJ4.out; first | omega | exact Nat.le_refl _⟩, ⟨by repeat (first | (with_reducible first | exact HB.out | apply below_alloc | apply pw_below_drewN | apply below_drew1) | exact HB.out)⟩⟩
                · rw [if_neg c23] at H
                  have c23b0 : decide (48 ≤ (bt a1 0)) = false := decide_eq_false c23
                  clear c23
                  have H' := Aside0.mk H
                  clear H
                  have p20 : 0 ≤ (0 : Int) := (by omega)
                  have q20 : 0 < a1.size := (by have : (0 : Int) < (a1.size : Int) := of_decide_eq_true (by first | (with_reducible assumption) | assumption); omega)
                  have hx20 : ∀ h : 0 < a1.size, ((a1[0]'h).toNat : Int) = bt a1 0 := bt_at a1 0
                  clear p20
                  have qi20 : (0 < (a1.size : Int)) = True := eq_true (of_decide_eq_true (by first | (with_reducible assumption) | assumption))
                  replace q20 := eq_true q20
                  have p22 : 0 ≤ (0 : Int) := (by omega)
                  have q22 : 0 < a1.size := (by have : (0 : Int) < (a1.size : Int) := of_decide_eq_true (by first | (with_reducible assumption) | assumption); omega)
                  have hx22 : ∀ h : 0 < a1.size, ((a1[0]'h).toNat : Int) = bt a1 0 := bt_at a1 0
                  clear p22
                  have qi22 : (0 < (a1.size : Int)) = True := eq_true (of_decide_eq_true (by first | (with_reducible assumption) | assumption))
                  replace q22 := eq_true q22
                  go_wp2
                  go_meet
                  case rel => exact ⟨_, (false), (by first | rfl | (simp; done) | (simp [*]; done)), H', ⟨by have := HJ4.out; first | omega | exact Nat.le_refl _⟩, ⟨by repeat (first | (with_reducible first | exact HB.out | apply below_alloc | apply pw_below_drewN | apply below_drew1) | exact HB.out)⟩⟩
            · rw [if_neg c19] at H
              exact absurd H (by simp)
        case rest =>
          clear HC17
          try clear c1
          try clear c2
          try clear p2
          try clear q2
          try clear hx2
          try clear qi2
          try clear c5
          try clear c9
          try clear c9b0
          try clear c9b1
          try clear c10
          try clear c10b0
          try clear c10b1
          try clear c11
          try clear c11b0
          try clear c11b1
          try clear c14
          try clear c16
          try clear c17
          try clear c18
          try clear c18b0
          try clear c18b1
          try clear c19
          try clear c19b0
          try clear c19b1
          try clear p20
          try clear q20
          try clear hx20
          try clear qi20
          try clear c21
          try clear c21b0
          try clear c21b1
          try clear p22
          try clear q22
          try clear hx22
          try clear qi22
          try clear c23
          try clear c23b0
          try clear p24
          try clear q24
          try clear hx24
          try clear qi24
          try clear p2
          try clear p20
          try clear p22
          try clear p24
          try clear q20
          try clear q22
          try clear q24
          obtain ⟨kq, x55_16, rfl, HA, HJ16, HB⟩ := hcut
          cases kq with
          | zero => exact absurd HA.out (by simp [aukletlaw01_DecShows.j1])
          | succ kj16 =>
            have H := HA.out
            clear HA
            simp only [aukletlaw01_DecShows.j1] at H
            by_cases c25 : x55_16 = true
            · subst c25
              have H1 : ((aukletlaw01_lives.f kj16).bind fun t446 => (some t446)) = some r := by rw [if_pos rfl] at H; exact H
              clear H
              have H := H1
              clear H1
              replace H := Option.bind_eq_some_iff.mp H
              obtain ⟨t446, A260, H⟩ := H
              replace H : (some t446) = some r := H
              have A26 := Aside0.mk A260
              clear A260
              obtain rfl := Option.some.inj H
              go_wp2_with (first | ((with_reducible refine gate_callee (f := 13) rfl ?_); refine goesL_ (some 56) rfl rfl Try.func13 (by kernel_rfl) rfl #[] rfl (by (try simp only [List.map_toArray, List.map_cons, List.map_nil]); first | done | rfl | (simp only [List.length_drop, List.length_take]; rfl)) ?_; (with_reducible refine (aukletlaw01_lives.calls kj16  t446 _ A26.out).mono ?_); rintro e w27 ⟨rfl, hb⟩; refine ⟨_, rfl, ?_⟩; have n0_ := Aside0.mk (below_step (by repeat (first | (with_reducible first | exact HB.out | apply below_alloc | apply pw_below_drewN | apply below_drew1) | exact HB.out)) hb); clear HB; have HB := n0_; clear n0_; (try clear hb); (try clear hb2); (try clear hk); (try clear hi)))
              go_ret
              exact ⟨by first | rfl | (simp [errW_none, errW_some] <;> rfl) | (simp [*, errW_none, errW_some] <;> rfl), by repeat (first | (with_reducible first | exact HB.out | apply below_alloc | apply pw_below_drewN | apply below_drew1) | exact HB.out)⟩
            · replace c25 := Bool.eq_false_iff.mpr c25
              subst c25
              have H1 : (if 1 + t441.size ≤ 9223372036854775807 then (if ((⟨#[9]⟩ : ByteArray) ++ t441).size + a1.size ≤ 9223372036854775807 then ((dec_Parse.f (((⟨#[9]⟩ : ByteArray) ++ t441) ++ a1)).bind fun bt447 => (if bt447.1 = a0 then (if bt447.2.1 = (wrap64 ((t441.size : Int) + 1)) then (if bt447.2.2 = 0 then ((aukletlaw01_lives.f kj16).bind fun t450 => (some t450)) else (some false)) else (some false)) else (some false))) else (none)) else (none)) = some r := by rw [if_neg (show ¬ (false = true) by decide)] at H; exact H
              clear H
              have H := H1
              clear H1
              by_cases c28 : 1 + t441.size ≤ 9223372036854775807
              · rw [if_pos c28] at H
                have c28b0 := eq_true c28
                have c28b1 : decide (1 + t441.size ≤ 9223372036854775807) = true := decide_eq_true c28
                try have c28b2 : (9223372036854775807 < 1 + t441.size) = False := eq_false (Nat.not_lt.2 c28)
                by_cases c29 : ((⟨#[9]⟩ : ByteArray) ++ t441).size + a1.size ≤ 9223372036854775807
                · rw [if_pos c29] at H
                  have c29b0 := eq_true c29
                  have c29b1 : decide (((⟨#[9]⟩ : ByteArray) ++ t441).size + a1.size ≤ 9223372036854775807) = true := decide_eq_true c29
                  try have c29b2 : (9223372036854775807 < ((⟨#[9]⟩ : ByteArray) ++ t441).size + a1.size) = False := eq_false (Nat.not_lt.2 c29)
                  replace H := Option.bind_eq_some_iff.mp H
                  obtain ⟨⟨t447, t448, t449⟩, A300, H⟩ := H
                  replace H : (if t447 = a0 then (if t448 = (wrap64 ((t441.size : Int) + 1)) then (if t449 = 0 then ((aukletlaw01_lives.f kj16).bind fun t450 => (some t450)) else (some false)) else (some false)) else (some false)) = some r := H
                  have A30 := Aside0.mk A300
                  clear A300
                  by_cases c31 : t447 = a0
                  · rw [if_pos c31] at H
                    have c31b0 : (t447 == a0) = true := beq_iff_eq.mpr c31
                    have c31b1 : (t447 != a0) = false := bne_eq_false_iff_eq.mpr c31
                    clear c31
                    have hw32 : wrap64 ((t441.size : Int) + 1) = (t441.size : Int) + 1 := (fun (n : Nat) (h : 1 + n ≤ 9223372036854775807) => (show wrap64 ((n : Int) + 1) = (n : Int) + 1 by unfold wrap64; omega)) _ c28
                    by_cases c32 : t448 = (wrap64 ((t441.size : Int) + 1))
                    · rw [if_pos c32] at H
                      have c32b0 : (t448 == (wrap64 ((t441.size : Int) + 1))) = true := beq_iff_eq.mpr c32
                      have c32b1 : (t448 != (wrap64 ((t441.size : Int) + 1))) = false := bne_eq_false_iff_eq.mpr c32
                      rw [hw32] at c32b0 c32b1
                      clear c32
                      by_cases c33 : t449 = 0
                      · rw [if_pos c33] at H
                        have c33b0 : (t449 == 0) = true := beq_iff_eq.mpr c33
                        have c33b1 : (t449 != 0) = false := bne_eq_false_iff_eq.mpr c33
                        clear c33
                        replace H := Option.bind_eq_some_iff.mp H
                        obtain ⟨t450, A340, H⟩ := H
                        replace H : (some t450) = some r := H
                        have A34 := Aside0.mk A340
                        clear A340
                        obtain rfl := Option.some.inj H
                        go_wp2_with (first | ((with_reducible refine gate_callee (f := 14) rfl ?_); refine goesL_ (some 62) rfl rfl Try.func14 (by kernel_rfl) rfl #[.string (((⟨#[9]⟩ : ByteArray) ++ t441) ++ a1)] rfl (by (try simp only [List.map_toArray, List.map_cons, List.map_nil]); first | done | rfl | (simp only [List.length_drop, List.length_take]; rfl)) ?_; (with_reducible refine (dec_Parse.calls (((⟨#[9]⟩ : ByteArray) ++ t441) ++ a1) t447 t448 t449 _ A30.out).mono ?_); rintro e w35 ⟨rfl, hb⟩; refine ⟨_, rfl, ?_⟩; have n0_ := Aside0.mk (below_step (by repeat (first | (with_reducible first | exact HB.out | apply below_alloc | apply pw_below_drewN | apply below_drew1) | exact HB.out)) hb); clear HB; have HB := n0_; clear n0_; (try clear hb); (try clear hb2); (try clear hk); (try clear hi)) | (go_at_call 13; (with_reducible refine (aukletlaw01_lives.calls kj16  t450 _ A34.out).mono ?_); rintro e w36 ⟨rfl, hb⟩; have n0_ := Aside0.mk (below_step (by repeat (first | (with_reducible first | exact HB.out | apply below_alloc | apply pw_below_drewN | apply below_drew1) | exact HB.out)) hb); clear HB; have HB := n0_; clear n0_; (try clear hb); (try clear hb2); (try clear hk); (try clear hi)))
                        go_ret
                        exact ⟨by first | rfl | (simp [errW_none, errW_some] <;> rfl) | (simp [*, errW_none, errW_some] <;> rfl), by repeat (first | (with_reducible first | exact HB.out | apply below_alloc | apply pw_below_drewN | apply below_drew1) | exact HB.out)⟩
                      · rw [if_neg c33] at H
                        have c33b0 : (t449 == 0) = false := beq_eq_false_iff_ne.mpr c33
                        have c33b1 : (t449 != 0) = true := bne_iff_ne.mpr c33
                        obtain rfl := Option.some.inj H
                        go_wp2_with (first | ((with_reducible refine gate_callee (f := 14) rfl ?_); refine goesL_ (some 62) rfl rfl Try.func14 (by kernel_rfl) rfl #[.string (((⟨#[9]⟩ : ByteArray) ++ t441) ++ a1)] rfl (by (try simp only [List.map_toArray, List.map_cons, List.map_nil]); first | done | rfl | (simp only [List.length_drop, List.length_take]; rfl)) ?_; (with_reducible refine (dec_Parse.calls (((⟨#[9]⟩ : ByteArray) ++ t441) ++ a1) t447 t448 t449 _ A30.out).mono ?_); rintro e w37 ⟨rfl, hb⟩; refine ⟨_, rfl, ?_⟩; have n0_ := Aside0.mk (below_step (by repeat (first | (with_reducible first | exact HB.out | apply below_alloc | apply pw_below_drewN | apply below_drew1) | exact HB.out)) hb); clear HB; have HB := n0_; clear n0_; (try clear hb); (try clear hb2); (try clear hk); (try clear hi)))
                        go_ret
                        exact ⟨by first | rfl | (simp [errW_none, errW_some] <;> rfl) | (simp [*, errW_none, errW_some] <;> rfl), by repeat (first | (with_reducible first | exact HB.out | apply below_alloc | apply pw_below_drewN | apply below_drew1) | exact HB.out)⟩
                    · rw [if_neg c32] at H
                      have c32b0 : (t448 == (wrap64 ((t441.size : Int) + 1))) = false := beq_eq_false_iff_ne.mpr c32
                      have c32b1 : (t448 != (wrap64 ((t441.size : Int) + 1))) = true := bne_iff_ne.mpr c32
                      rw [hw32] at c32b0 c32b1
                      obtain rfl := Option.some.inj H
                      go_wp2_with (first | ((with_reducible refine gate_callee (f := 14) rfl ?_); refine goesL_ (some 62) rfl rfl Try.func14 (by kernel_rfl) rfl #[.string (((⟨#[9]⟩ : ByteArray) ++ t441) ++ a1)] rfl (by (try simp only [List.map_toArray, List.map_cons, List.map_nil]); first | done | rfl | (simp only [List.length_drop, List.length_take]; rfl)) ?_; (with_reducible refine (dec_Parse.calls (((⟨#[9]⟩ : ByteArray) ++ t441) ++ a1) t447 t448 t449 _ A30.out).mono ?_); rintro e w38 ⟨rfl, hb⟩; refine ⟨_, rfl, ?_⟩; have n0_ := Aside0.mk (below_step (by repeat (first | (with_reducible first | exact HB.out | apply below_alloc | apply pw_below_drewN | apply below_drew1) | exact HB.out)) hb); clear HB; have HB := n0_; clear n0_; (try clear hb); (try clear hb2); (try clear hk); (try clear hi)))
                      go_ret
                      exact ⟨by first | rfl | (simp [errW_none, errW_some] <;> rfl) | (simp [*, errW_none, errW_some] <;> rfl), by repeat (first | (with_reducible first | exact HB.out | apply below_alloc | apply pw_below_drewN | apply below_drew1) | exact HB.out)⟩
                  · rw [if_neg c31] at H
                    have c31b0 : (t447 == a0) = false := beq_eq_false_iff_ne.mpr c31
                    have c31b1 : (t447 != a0) = true := bne_iff_ne.mpr c31
                    obtain rfl := Option.some.inj H
                    go_wp2_with (first | ((with_reducible refine gate_callee (f := 14) rfl ?_); refine goesL_ (some 62) rfl rfl Try.func14 (by kernel_rfl) rfl #[.string (((⟨#[9]⟩ : ByteArray) ++ t441) ++ a1)] rfl (by (try simp only [List.map_toArray, List.map_cons, List.map_nil]); first | done | rfl | (simp only [List.length_drop, List.length_take]; rfl)) ?_; (with_reducible refine (dec_Parse.calls (((⟨#[9]⟩ : ByteArray) ++ t441) ++ a1) t447 t448 t449 _ A30.out).mono ?_); rintro e w39 ⟨rfl, hb⟩; refine ⟨_, rfl, ?_⟩; have n0_ := Aside0.mk (below_step (by repeat (first | (with_reducible first | exact HB.out | apply below_alloc | apply pw_below_drewN | apply below_drew1) | exact HB.out)) hb); clear HB; have HB := n0_; clear n0_; (try clear hb); (try clear hb2); (try clear hk); (try clear hi)))
                    go_ret
                    exact ⟨by first | rfl | (simp [errW_none, errW_some] <;> rfl) | (simp [*, errW_none, errW_some] <;> rfl), by repeat (first | (with_reducible first | exact HB.out | apply below_alloc | apply pw_below_drewN | apply below_drew1) | exact HB.out)⟩
                · rw [if_neg c29] at H
                  exact absurd H (by simp)
              · rw [if_neg c28] at H
                exact absurd H (by simp)

/-- THE ONE PURE STATEMENT of aukletlaw01_DecShows: yours. -/
def aukletlaw01_DecShows.Pure : Prop := ∀ (a0 : Int) (a1 : ByteArray), (Lit.int .i64 a0).wf = true → a1.size ≤ 140737488351232 → ∃ k, aukletlaw01_DecShows.f k a0 a1 = some true
theorem aukletlaw01_DecShows.walk (P : aukletlaw01_DecShows.Pure) (a0 : Int) (a1 : ByteArray) (w : World) (w0 : (Lit.int .i64 a0).wf = true) (w1 : a1.size ≤ 140737488351232) :
    Calls Try.prog 5 #[.int .i64 a0, .string a1] w fun e w' => e = .returned (.bool true) ∧ Below w.heap.size w w' := by
  obtain ⟨k, h⟩ := P a0 a1 w0 w1
  refine (aukletlaw01_DecShows.calls k a0 a1 true w h).mono ?_
  rintro e w' ⟨rfl, hd⟩
  exact ⟨rfl, hd⟩

end Go.Proofs.Ytjbblmdpiapmbaa.PDec
