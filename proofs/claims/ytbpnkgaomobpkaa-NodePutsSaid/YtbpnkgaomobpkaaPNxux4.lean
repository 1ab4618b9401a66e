/- The functions that a law uses, as plain Lean functions with proofs that the Go code comes to them; written by a program of this session (gprint.py). -/
import Derived.Test.YtbpnkgaomobpkaaPNxux0
import Derived.Test.YtbpnkgaomobpkaaPNxux3
import Derived.Test.YtbpnkgaomobpkaaGivR
namespace Go.Proofs.Ytbpnkgaomobpkaa.PNxu
open Go.Proofs.Ytbpnkgaomobpkaa.Giv
open Go.RowKit Go.Proofs.YtbpnkgaomobpkaaW.PrintWords Go.Proofs.YtbpnkgaomobpkaaW.PrintLast Go.Proofs.YtbpnkgaomobpkaaW.PrintMore
attribute [local go_sem] max2_int min2_int max_two min_two max_three min_three max_four min_four   -- for this text's walks alone
set_option linter.unusedVariables false
set_option linter.unusedSimpArgs false

/-! ### node_Take: function 13 -/
mutual
def node_Take.j0 : Nat → List Int → Int → List Int → Bool → Int → Bool → List Int → Option (Bool × List ByteArray × List ByteArray × List Int × Int)
  | 0, _, _, _, _, _, _, _ => none
  | k + 1, x0, x6, x178000, x178001, x178002, x185000, x185003 => node_Take.l0 k x0 x6 0 x178000 x178001 x178002 x185000 ([] : List ByteArray) ([] : List ByteArray) x185003
def node_Take.l0 : Nat → List Int → Int → Int → List Int → Bool → Int → Bool → List ByteArray → List ByteArray → List Int → Option (Bool × List ByteArray × List ByteArray × List Int × Int)
  | 0, _, _, _, _, _, _, _, _, _, _ => none
  | k + 1, x0, x45, x46, x178000, x178001, x178002, x185000, x185001, x185002, x185003 => if x46 < x45 then (if x178001 = true then ((node_put.f k x185000 x185001 x185002 x185003).bind fun bt195 => (some (false, ([] : List ByteArray), ([] : List ByteArray), ([] : List Int), 200))) else ((node_rtext.f x178000 x178001 x178002).bind fun bt199 => (if x185001.length < 8796093022208 then ((some (x185001 ++ [bt199.1] : List ByteArray)).bind fun y202 => (if x185000 = true then ((node_rtext.f x178000 bt199.2.1 bt199.2.2).bind fun bt205 => (if x185002.length < 8796093022208 then (node_Take.l0 k x0 x45 (wrap64 (x46 + 1)) x178000 bt205.2.1 bt205.2.2 x185000 y202 (x185002 ++ [bt205.1]) x185003) else (none))) else ((node_number4.f x178000 bt199.2.1 bt199.2.2).bind fun bt211 => (if x185003.length < 17592186044416 then (node_Take.l0 k x0 x45 (wrap64 (x46 + 1)) x178000 bt211.2.1 bt211.2.2 x185000 y202 x185002 (x185003 ++ [bt211.1])) else (none))))) else (none)))) else ((node_put.f k x185000 x185001 x185002 x185003).bind fun bt191 => (if x178001 = true then (some (false, ([] : List ByteArray), ([] : List ByteArray), ([] : List Int), 200)) else (if bt191.2 = 0 then (if (strOfNums bt191.1).toList = (strOfNums x0).toList then (some (x185000, x185001, x185002, x185003, 0)) else (some (false, ([] : List ByteArray), ([] : List ByteArray), ([] : List Int), 200))) else (some (false, ([] : List ByteArray), ([] : List ByteArray), ([] : List Int), 200)))))
end
def node_Take.f (k : Nat) (l0 : List Int) : Option (Bool × List ByteArray × List ByteArray × List Int × Int) := if (l0.length : Int) = 512 then ((node_rnew.f l0).bind fun bt174 => ((node_num.f bt174.1 bt174.2.1 bt174.2.2 1).bind fun bt178 => ((node_num.f bt174.1 bt178.2.1 bt178.2.2 2).bind fun bt181 => (if bt178.1 = 1 then (node_Take.j0 k l0 bt181.1 bt174.1 bt181.2.1 bt181.2.2 (bt178.1 == 1) ([] : List Int)) else ((node_number4.f bt174.1 bt181.2.1 bt181.2.2).bind fun bt185 => (if ([] : List Int).length < 17592186044416 then (node_Take.j0 k l0 bt181.1 bt174.1 bt185.2.1 bt185.2.2 (bt178.1 == 1) (([] : List Int) ++ [bt185.1])) else (none))))))) else (some (false, ([] : List ByteArray), ([] : List ByteArray), ([] : List Int), 200))
theorem node_Take.mono_l : ∀ k, (∀ y0 y1 y2 y3 y4 y5 y6, LeO (node_Take.j0 k y0 y1 y2 y3 y4 y5 y6) (node_Take.j0 (k + 1) y0 y1 y2 y3 y4 y5 y6)) ∧ (∀ y0 y1 y2 y3 y4 y5 y6 y7 y8 y9, LeO (node_Take.l0 k y0 y1 y2 y3 y4 y5 y6 y7 y8 y9) (node_Take.l0 (k + 1) y0 y1 y2 y3 y4 y5 y6 y7 y8 y9))
  | 0 => ⟨fun _ _ _ _ _ _ _ r h => by simp [node_Take.j0] at h, fun _ _ _ _ _ _ _ _ _ _ r h => by simp [node_Take.l0] at h⟩
  | k + 1 => by
    obtain ⟨ih0, ih1⟩ := node_Take.mono_l k
    refine ⟨?_, ?_⟩
    · intro y0 y1 y2 y3 y4 y5 y6
      unfold node_Take.j0
      repeat' first
      | (with_reducible exact ih0 _ _ _ _ _ _ _)
      | (with_reducible exact ih1 _ _ _ _ _ _ _ _ _ _)
      | (with_reducible exact node_put.mono _ _ _ _ _)
      | (with_reducible exact LeO.refl _)
      | (with_reducible exact LeO.none _)
      | (with_reducible refine LeO.ite ?_ ?_)
      | (with_reducible refine LeO.bind ?_ (fun _ => ?_))
      | exact ih0 _ _ _ _ _ _ _
      | exact ih1 _ _ _ _ _ _ _ _ _ _
      | exact node_put.mono _ _ _ _ _
      | exact LeO.none _
      | refine LeO.ite ?_ ?_
      | refine LeO.bind ?_ (fun _ => ?_)
    · intro y0 y1 y2 y3 y4 y5 y6 y7 y8 y9
      unfold node_Take.l0
      repeat' first
      | (with_reducible exact ih0 _ _ _ _ _ _ _)
      | (with_reducible exact ih1 _ _ _ _ _ _ _ _ _ _)
      | (with_reducible exact node_put.mono _ _ _ _ _)
      | (with_reducible exact LeO.refl _)
      | (with_reducible exact LeO.none _)
      | (with_reducible refine LeO.ite ?_ ?_)
      | (with_reducible refine LeO.bind ?_ (fun _ => ?_))
      | exact ih0 _ _ _ _ _ _ _
      | exact ih1 _ _ _ _ _ _ _ _ _ _
      | exact node_put.mono _ _ _ _ _
      | exact LeO.none _
      | refine LeO.ite ?_ ?_
      | refine LeO.bind ?_ (fun _ => ?_)
theorem node_Take.mono : ∀ a0 k, LeO (node_Take.f k a0) (node_Take.f (k + 1) a0) := by
  intro a0 k
  obtain ⟨ih0, ih1⟩ := node_Take.mono_l k
  unfold node_Take.f
  repeat' first
      | (with_reducible exact ih0 _ _ _ _ _ _ _)
      | (with_reducible exact ih1 _ _ _ _ _ _ _ _ _ _)
      | (with_reducible exact node_put.mono _ _ _ _ _)
      | (with_reducible exact LeO.refl _)
      | (with_reducible exact LeO.none _)
      | (with_reducible refine LeO.ite ?_ ?_)
      | (with_reducible refine LeO.bind ?_ (fun _ => ?_))
      | exact ih0 _ _ _ _ _ _ _
      | exact ih1 _ _ _ _ _ _ _ _ _ _
      | exact node_put.mono _ _ _ _ _
      | exact LeO.none _
      | refine LeO.ite ?_ ?_
      | refine LeO.bind ?_ (fun _ => ?_)
def node_Take.T7 : Bool × List (List Nat × List Nat) := (true, [([], []), ([0], [0]), ([], []), ([2], [2]), ([3], [3]), ([1, 4, 3], [1, 4]), ([0, 1, 2, 3, 4, 5], []), ([6, 5, 5, 0, 1, 2, 3, 4, 5], [5, 6])])
def node_Take.B7 : List Nat := [0, 1, 0, 4, 12, 31, 63, 127]
theorem node_Take.tab7 : rtab .any (opsOf Try.f13 7) = node_Take.T7 := by kernel_rfl
theorem node_Take.bits7 : waitsOk node_Take.T7.2 node_Take.B7 = true := by kernel_rfl
def node_Take.T11 : Bool × List (List Nat × List Nat) := (true, [([], []), ([0], [0]), ([], []), ([2], [2]), ([3], [3]), ([1, 4, 3], [1, 4]), ([0, 1, 2, 3, 4, 5], []), ([6, 5, 5, 0, 1, 2, 3, 4, 5], [5, 6])])
def node_Take.B11 : List Nat := [0, 1, 0, 4, 12, 31, 63, 127]
theorem node_Take.tab11 : rtab .any (opsOf Try.f13 11) = node_Take.T11 := by kernel_rfl
theorem node_Take.bits11 : waitsOk node_Take.T11.2 node_Take.B11 = true := by kernel_rfl
def node_Take.T13 : Bool × List (List Nat × List Nat) := (true, [([], []), ([0], [0]), ([], []), ([2], [2]), ([3], [3]), ([1, 4, 3], [1, 4]), ([0, 1, 2, 3, 4, 5], []), ([6, 5, 5, 0, 1, 2, 3, 4, 5], [5, 6])])
def node_Take.B13 : List Nat := [0, 1, 0, 4, 12, 31, 63, 127]
theorem node_Take.tab13 : rtab .any (opsOf Try.f13 13) = node_Take.T13 := by kernel_rfl
theorem node_Take.bits13 : waitsOk node_Take.T13.2 node_Take.B13 = true := by kernel_rfl
def node_Take.T14 : Bool × List (List Nat × List Nat) := (true, [([], []), ([0], [0]), ([], []), ([2], [2]), ([3], [3]), ([1, 4, 3], [1, 4]), ([0, 1, 2, 3, 4, 5], []), ([6, 5, 5, 0, 1, 2, 3, 4, 5], [5, 6])])
def node_Take.B14 : List Nat := [0, 1, 0, 4, 12, 31, 63, 127]
theorem node_Take.tab14 : rtab .any (opsOf Try.f13 14) = node_Take.T14 := by kernel_rfl
theorem node_Take.bits14 : waitsOk node_Take.T14.2 node_Take.B14 = true := by kernel_rfl
set_option maxHeartbeats 8000000 in
set_option maxRecDepth 100000 in
theorem node_Take.calls (k : Nat) (A0 : Option Addr) (c0 : Nat) (l0 : List Int) (r1 : Bool) (r2 : List ByteArray) (r3 : List ByteArray) (r4 : List Int) (r5 : Int) (w : World) (hr0 : Kd.C (Kd.int .u8) w A0 l0.length l0) (hc0 : l0.length ≤ c0) (h : node_Take.f k l0 = some (r1, r2, r3, r4, r5)) :
    Calls Try.prog 13 #[.slice A0 l0.length c0] w fun e w' => ∃ v1_ v2_ v3_ : Value, e = .returned (.tuple #[.agg #[.bool r1, v1_, v2_, v3_], .int .i64 r5]) ∧ Kd.R Kd.string 9 w' w.heap.size (fun k_ => some k_ ≠ (v2_ : Value).ownBlock) v1_ r2 ∧ Kd.R Kd.string 9 w' w.heap.size (fun k_ => some k_ ≠ (v1_ : Value).ownBlock) v2_ r3 ∧ Kd.R (Kd.int .i64) 3 w' w.heap.size (fun _ => True) v3_ r4 ∧ Below w.heap.size w w' := by
  have hu25 := Try.underlying25
  have HR0 := Aside0.mk hr0
  have HC0 := Aside0.mk hc0
  clear hr0 hc0
  have HB := Aside0.mk (Below.refl w.heap.size w)
  have H : (if (l0.length : Int) = 512 then ((node_rnew.f l0).bind fun bt174 => ((node_num.f bt174.1 bt174.2.1 bt174.2.2 1).bind fun bt178 => ((node_num.f bt174.1 bt178.2.1 bt178.2.2 2).bind fun bt181 => (if bt178.1 = 1 then (node_Take.j0 k l0 bt181.1 bt174.1 bt181.2.1 bt181.2.2 (bt178.1 == 1) ([] : List Int)) else ((node_number4.f bt174.1 bt181.2.1 bt181.2.2).bind fun bt185 => (if ([] : List Int).length < 17592186044416 then (node_Take.j0 k l0 bt181.1 bt174.1 bt185.2.1 bt185.2.2 (bt178.1 == 1) (([] : List Int) ++ [bt185.1])) else (none))))))) else (some (false, ([] : List ByteArray), ([] : List ByteArray), ([] : List Int), 200))) = some (r1, r2, r3, r4, r5) := h
  clear h
  by_cases c2 : (l0.length : Int) = 512
  · rw [if_pos c2] at H
    have c2b0 : ((l0.length : Int) == 512) = true := beq_iff_eq.mpr c2
    have c2b1 : ((l0.length : Int) != 512) = false := bne_eq_false_iff_eq.mpr c2
    clear c2
    replace H := Option.bind_eq_some_iff.mp H
    obtain ⟨⟨t174, t175, t176⟩, A30, H⟩ := H
    replace H : ((node_num.f t174 t175 t176 1).bind fun bt178 => ((node_num.f t174 bt178.2.1 bt178.2.2 2).bind fun bt181 => (if bt178.1 = 1 then (node_Take.j0 k l0 bt181.1 t174 bt181.2.1 bt181.2.2 (bt178.1 == 1) ([] : List Int)) else ((node_number4.f t174 bt181.2.1 bt181.2.2).bind fun bt185 => (if ([] : List Int).length < 17592186044416 then (node_Take.j0 k l0 bt181.1 t174 bt185.2.1 bt185.2.2 (bt178.1 == 1) (([] : List Int) ++ [bt185.1])) else (none)))))) = some (r1, r2, r3, r4, r5) := H
    have A3 := Aside0.mk A30
    clear A30
    replace H := Option.bind_eq_some_iff.mp H
    obtain ⟨⟨t178, t179, t180⟩, A40, H⟩ := H
    replace H : ((node_num.f t174 t179 t180 2).bind fun bt181 => (if t178 = 1 then (node_Take.j0 k l0 bt181.1 t174 bt181.2.1 bt181.2.2 (t178 == 1) ([] : List Int)) else ((node_number4.f t174 bt181.2.1 bt181.2.2).bind fun bt185 => (if ([] : List Int).length < 17592186044416 then (node_Take.j0 k l0 bt181.1 t174 bt185.2.1 bt185.2.2 (t178 == 1) (([] : List Int) ++ [bt185.1])) else (none))))) = some (r1, r2, r3, r4, r5) := H
    have A4 := Aside0.mk A40
    clear A40
    replace H := Option.bind_eq_some_iff.mp H
    obtain ⟨⟨t181, t182, t183⟩, A50, H⟩ := H
    replace H : (if t178 = 1 then (node_Take.j0 k l0 t181 t174 t182 t183 (t178 == 1) ([] : List Int)) else ((node_number4.f t174 t182 t183).bind fun bt185 => (if ([] : List Int).length < 17592186044416 then (node_Take.j0 k l0 t181 t174 bt185.2.1 bt185.2.2 (t178 == 1) (([] : List Int) ++ [bt185.1])) else (none)))) = some (r1, r2, r3, r4, r5) := H
    have A5 := Aside0.mk A50
    clear A50
    have HC6 := Aside0.mk H
    clear H
    go_enter Try.func13, Try.ntmps13
    try go_wp2_with (first | ((with_reducible refine gate_dst (N := 2) rfl ?_); refine box_event ?hg (N := 2) ?hd (cs := #[.bool false, .slice none 0 0, .slice none 0 0, .slice none 0 0]) (t := 25) ?hr ?_; (case hd => rfl); (case hg => rfl); (case hr => first | (go_simp; done) | (go_simp; rfl)); intro gb173 hg w7 hbox hb; have n0_ := Aside0.mk (below_step (by repeat (first | (with_reducible first | exact HB.out | apply below_alloc | apply pw_below_drewN | apply below_drew1) | exact HB.out)) hb); have n1_ := Aside0.mk (hbox); have n2_ := Aside0.mk ((by rw [hg]; exact (below_size (by repeat (first | (with_reducible first | exact HB.out | apply below_alloc | apply pw_below_drewN | apply below_drew1) | exact HB.out))) : w.heap.size ≤ gb173)); have n3_ := Aside0.mk ((by rw [hg]; exact (below_size (by repeat (first | (with_reducible first | exact HB.out | apply below_alloc | apply pw_below_drewN | apply below_drew1) | exact HB.out))) : w.heap.size ≤ gb173)); clear HB; have HB := n0_; have BK173 := n1_; have GW173 := n2_; have GE173 := n3_; clear n0_ n1_ n2_ n3_; clear hb hbox hg) | ((with_reducible refine gate_dst (N := 16) rfl ?_); refine box_event ?hg (N := 16) ?hd (cs := #[.slice A0 l0.length c0, .bool false]) (t := 51) ?hr ?_; (case hd => rfl); (case hg => rfl); (case hr => first | (go_simp; done) | (go_simp; rfl)); intro g177 hg w8 hbox hb2; have hb := below_step (by repeat (first | (with_reducible first | exact HB.out | apply below_alloc | apply pw_below_drewN | apply below_drew1 | refine below_set ?_ GE173.out) | exact HB.out)) hb2; have hi := rnew_is A3.out HR0.out HC0.out hbox (by rw [hg]; exact (below_size (by repeat (first | (with_reducible first | exact HB.out | apply below_alloc | apply pw_below_drewN | apply below_drew1 | refine below_set ?_ GE173.out) | exact HB.out))) : w.heap.size ≤ g177); clear hbox hg; have n0_ := Aside0.mk (blk_below (g := gb173) (o := .cells #[.bool false, .slice none 0 0, .slice none 0 0, .slice none 0 0] 25 (0, 0)) (by (with_reducible repeat (first | refine blk_drewN ?_ _ | refine blk_drew ?_ | refine blk_alloc ?_ _)); exact BK173.out) hb2); have n1_ := Aside0.mk (hb); have n2_ := Aside0.mk (hi); have n3_ := Aside0.mk (IsS51.ne_blk hi (blk_below (g := gb173) (o := .cells #[.bool false, .slice none 0 0, .slice none 0 0, .slice none 0 0] 25 (0, 0)) (by (with_reducible repeat (first | refine blk_drewN ?_ _ | refine blk_drew ?_ | refine blk_alloc ?_ _)); exact BK173.out) hb2) (by decide)); have n4_ := Aside0.mk (Ne.symm (IsS51.ne_blk hi (blk_below (g := gb173) (o := .cells #[.bool false, .slice none 0 0, .slice none 0 0, .slice none 0 0] 25 (0, 0)) (by (with_reducible repeat (first | refine blk_drewN ?_ _ | refine blk_drew ?_ | refine blk_alloc ?_ _)); exact BK173.out) hb2) (by decide))); clear BK173; clear HB; have BK173 := n0_; have HB := n1_; have HI177 := n2_; have NB177_173 := n3_; have NB173_177 := n4_; clear n0_ n1_ n2_ n3_ n4_; (try clear hb); (try clear hb2); (try clear hk); (try clear hi)))
    have n0_ := Aside0.mk (blk_drew BK173.out)
    have n1_ := Aside0.mk (IsS51.drew HI177.out)
    have n2_ := Aside0.mk (below_drew1 HB.out)
    clear BK173
    clear HI177
    clear HB
    have BK173 := n0_
    have HI177 := n1_
    have HB := n2_
    clear n0_ n1_ n2_
    refine start_ (n := 8) (S := fun w' => Below w.heap.size w w') (ds := []) #[false, false, false, false, false, false, false, false] (by kernel_rfl) rfl rfl HB.out (fun hHeld => ?_)
    clear hHeld
    generalize w8.drew = w9 at BK173 HI177 HB ⊢
    refine pure_ (i := 0) (N := some 17) (v := ?_) (a' := ?_) #[true, false, false, false, false, false, false, false] rfl rfl (by kernel_rfl) (fun _ _ _ h => h) (Or.inl ⟨by rfl, ?_⟩) ?_ ?_
    rotate_left
    · intro w'
      go_simp
      with_reducible rfl
    rotate_left
    · simp only [Act.put, List.setIfInBounds_toArray, List.set_cons_zero, List.set_cons_succ, i64_w, i32_w]
      rfl
    refine pure_ (i := 4) (N := some 21) (v := ?_) (a' := ?_) #[true, false, false, false, true, false, false, false] rfl rfl (by kernel_rfl) (fun _ _ _ h => h) (Or.inl ⟨by rfl, ?_⟩) ?_ ?_
    rotate_left
    · intro w'
      go_simp
      with_reducible rfl
    rotate_left
    · simp only [Act.put, List.setIfInBounds_toArray, List.set_cons_zero, List.set_cons_succ, i64_w, i32_w]
      rfl
    refine one_ (i := 1) (N := some 18) #[true, true, false, false, true, false, false, false] rfl rfl (by kernel_rfl) (by decide) (fun K hK => ?_)
    refine goes_ Try.func28 (by kernel_rfl) rfl #[.pointer (some ⟨g177, 0, none⟩), .int .i64 1] (by rfl) rfl rfl (by (try simp only [List.map_toArray, List.map_cons, List.map_nil]); first | done | rfl) ?_
    with_reducible refine (rtake1 g177 t174 t175 t176 t178 t179 t180 w _ ?side1 ?side2 A4.out).mono ?_
    (case side1 => repeat (first | (with_reducible first | exact HI177.out | apply IsS51.alloc | apply IsS51.drewN | apply IsS51.drew | apply IsS51.set_1 | apply IsS51.set_2 | refine IsS51.far ?_ NB177_173.out _) | exact HI177.out))
    (case side2 => repeat (first | (with_reducible first | exact HB.out | apply below_alloc | apply pw_below_drewN | apply below_drew1 | refine below_set ?_ (IsS51.ge HI177.out) | refine below_set ?_ GE173.out) | exact HB.out))
    rintro e w10 ⟨ad1, cc1, rfl, hP1, hlo1, hhi1, hi, hb, hk⟩
    have HP1 := Aside0.mk hP1
    clear hP1
    refine ⟨_, rfl, ?_⟩
    have n0_ := Aside0.mk (KeepBut.blk hk (g' := gb173) (o := .cells #[.bool false, .slice none 0 0, .slice none 0 0, .slice none 0 0] 25 (0, 0)) (by (with_reducible repeat (first | refine blk_drewN ?_ _ | refine blk_drew ?_ | refine blk_alloc ?_ _)); exact BK173.out) NB173_177.out (by simp))
    have n1_ := Aside0.mk (hb)
    have n2_ := Aside0.mk (hi)
    clear BK173
    clear HB
    clear HI177
    have BK173 := n0_
    have HB := n1_
    have HI177 := n2_
    clear n0_ n1_ n2_
    (try clear hb)
    (try clear hb2)
    (try clear hk)
    (try clear hi)
    refine hK.out _ _ HB.out (fun hHeld => ?_)
    clear hK K
    refine norm_ (a' := ?_) ?_ ?_
    rotate_left
    · show Act.put _ (some 18) _ = _
      simp only [Act.put, List.setIfInBounds_toArray, List.set_cons_zero, List.set_cons_succ, i64_w, i32_w]
      rfl
    refine pure_ (i := 2) (N := some 19) (v := ?_) (a' := ?_) #[true, true, true, false, true, false, false, false] rfl rfl (by kernel_rfl) (fun _ _ _ h => h) (Or.inl ⟨by rfl, ?_⟩) ?_ ?_
    rotate_left
    · intro w'
      go_simp
      with_reducible rfl
    rotate_left
    · simp only [Act.put, List.setIfInBounds_toArray, List.set_cons_zero, List.set_cons_succ, i64_w, i32_w]
      rfl
    refine take_ (i := 3) (N := some 20) (v := ?_) (a' := ?_) #[true, true, true, true, true, false, false, false] rfl rfl (by kernel_rfl) (fun _ _ _ h => h) (Or.inl ⟨by rfl, ?_⟩) hHeld ?_ ?_
    rotate_left
    · intro w' hS_
      have hc_ := HP1.out w' hS_
      go_simp
      with_reducible rfl
    rotate_left
    · simp only [Act.put, List.setIfInBounds_toArray, List.set_cons_zero, List.set_cons_succ, i64_w, i32_w]
      rfl
    refine one_ (i := 5) (N := some 22) #[true, true, true, true, true, true, false, false] rfl rfl (by kernel_rfl) (by decide) (fun K hK => ?_)
    refine goes_ Try.func28 (by kernel_rfl) rfl #[.pointer (some ⟨g177, 0, none⟩), .int .i64 2] (by rfl) rfl rfl (by (try simp only [List.map_toArray, List.map_cons, List.map_nil]); first | done | rfl) ?_
    with_reducible refine (rtake2 g177 t174 t179 t180 t181 t182 t183 w _ ?side1 ?side2 A5.out).mono ?_
    (case side1 => repeat (first | (with_reducible first | exact HI177.out | apply IsS51.alloc | apply IsS51.drewN | apply IsS51.drew | apply IsS51.set_1 | apply IsS51.set_2 | refine IsS51.far ?_ NB177_173.out _) | exact HI177.out))
    (case side2 => repeat (first | (with_reducible first | exact HB.out | apply below_alloc | apply pw_below_drewN | apply below_drew1 | refine below_set ?_ (IsS51.ge HI177.out) | refine below_set ?_ GE173.out) | exact HB.out))
    rintro e w11 ⟨ad2, cc2, y0, y1, rfl, hP2, hq0, hq0', hq1, hq1', HV2, hi, hb, hk⟩
    have HP2 := Aside0.mk hP2
    clear hP2
    refine ⟨_, rfl, ?_⟩
    have n0_ := Aside0.mk (KeepBut.blk hk (g' := gb173) (o := .cells #[.bool false, .slice none 0 0, .slice none 0 0, .slice none 0 0] 25 (0, 0)) (by (with_reducible repeat (first | refine blk_drewN ?_ _ | refine blk_drew ?_ | refine blk_alloc ?_ _)); exact BK173.out) NB173_177.out (by simp))
    have n1_ := Aside0.mk (hb)
    have n2_ := Aside0.mk (hi)
    clear BK173
    clear HB
    clear HI177
    have BK173 := n0_
    have HB := n1_
    have HI177 := n2_
    clear n0_ n1_ n2_
    (try clear hb)
    (try clear hb2)
    (try clear hk)
    (try clear hi)
    refine hK.out _ _ HB.out (fun hHeld => ?_)
    clear hK K
    refine norm_ (a' := ?_) ?_ ?_
    rotate_left
    · show Act.put _ (some 22) _ = _
      simp only [Act.put, List.setIfInBounds_toArray, List.set_cons_zero, List.set_cons_succ, i64_w, i32_w]
      rfl
    refine pure_ (i := 6) (N := some 5) (v := ?_) (a' := ?_) #[true, true, true, true, true, true, true, false] rfl rfl (by kernel_rfl) (fun _ _ _ h => h) (Or.inl ⟨by rfl, ?_⟩) ?_ ?_
    rotate_left
    · intro w'
      go_simp
      with_reducible rfl
    rotate_left
    · simp only [Act.put, List.setIfInBounds_toArray, List.set_cons_zero, List.set_cons_succ, i64_w, i32_w]
      rfl
    refine pure_ (i := 7) (N := some 6) (v := ?_) (a' := ?_) #[true, true, true, true, true, true, true, true] rfl rfl (by kernel_rfl) (fun _ _ _ h => h) (Or.inl ⟨by rfl, ?_⟩) ?_ ?_
    rotate_left
    · intro w'
      go_simp
      with_reducible rfl
    rotate_left
    · simp only [Act.put, List.setIfInBounds_toArray, List.set_cons_zero, List.set_cons_succ, i64_w, i32_w]
      rfl
    refine done_ (by kernel_rfl) ?_
    go_upto_if 28 with (first | ((with_reducible refine gate_dst (N := 7) rfl ?_); refine box_event ?hg (N := 7) ?hd (cs := #[.bool false, .slice none 0 0, .slice none 0 0, .slice none 0 0]) (t := 25) ?hr ?_; (case hd => rfl); (case hg => rfl); (case hr => first | (go_simp; done) | (go_simp; rfl)); intro gb184 hg w12 hbox hb; have n0_ := Aside0.mk (blk_below (g := gb173) (o := .cells #[.bool false, .slice none 0 0, .slice none 0 0, .slice none 0 0] 25 (0, 0)) (by (with_reducible repeat (first | refine blk_drewN ?_ _ | refine blk_drew ?_ | refine blk_alloc ?_ _)); exact BK173.out) hb); have n1_ := Aside0.mk (IsS51.below (by repeat (first | (with_reducible first | exact HI177.out | apply IsS51.alloc | apply IsS51.drewN | apply IsS51.drew | apply IsS51.set_1 | apply IsS51.set_2 | refine IsS51.far ?_ NB177_173.out _) | exact HI177.out)) hb); have n2_ := Aside0.mk (below_step (by repeat (first | (with_reducible first | exact HB.out | apply below_alloc | apply pw_below_drewN | apply below_drew1 | refine below_set ?_ (IsS51.ge HI177.out) | refine below_set ?_ GE173.out) | exact HB.out)) hb); have n3_ := Aside0.mk (hbox); have n4_ := Aside0.mk ((by rw [hg]; exact (below_size (by repeat (first | (with_reducible first | exact HB.out | apply below_alloc | apply pw_below_drewN | apply below_drew1 | refine below_set ?_ (IsS51.ge HI177.out) | refine below_set ?_ GE173.out) | exact HB.out))) : w.heap.size ≤ gb184)); have n5_ := Aside0.mk ((by rw [hg]; exact (below_size (by repeat (first | (with_reducible first | exact HB.out | apply below_alloc | apply pw_below_drewN | apply below_drew1 | refine below_set ?_ (IsS51.ge HI177.out) | refine below_set ?_ GE173.out) | exact HB.out))) : w.heap.size ≤ gb184)); have n6_ := Aside0.mk ((by rw [hg]; exact Nat.ne_of_lt (blk_lt (g := gb173) (o := .cells #[.bool false, .slice none 0 0, .slice none 0 0, .slice none 0 0] 25 (0, 0)) (by (with_reducible repeat (first | refine blk_drewN ?_ _ | refine blk_drew ?_ | refine blk_alloc ?_ _)); exact BK173.out)) : gb173 ≠ gb184)); have n7_ := Aside0.mk ((by rw [hg]; exact Nat.ne_of_gt (blk_lt (g := gb173) (o := .cells #[.bool false, .slice none 0 0, .slice none 0 0, .slice none 0 0] 25 (0, 0)) (by (with_reducible repeat (first | refine blk_drewN ?_ _ | refine blk_drew ?_ | refine blk_alloc ?_ _)); exact BK173.out)) : gb184 ≠ gb173)); have n8_ := Aside0.mk ((by rw [hg]; exact Nat.ne_of_lt (IsS51.lt (show IsS51 w _ g177 t174 t182 t183 from by repeat (first | (with_reducible first | exact HI177.out | apply IsS51.alloc | apply IsS51.drewN | apply IsS51.drew | apply IsS51.set_1 | apply IsS51.set_2 | refine IsS51.far ?_ NB177_173.out _) | exact HI177.out))) : g177 ≠ gb184)); have n9_ := Aside0.mk ((by rw [hg]; exact Nat.ne_of_gt (IsS51.lt (show IsS51 w _ g177 t174 t182 t183 from by repeat (first | (with_reducible first | exact HI177.out | apply IsS51.alloc | apply IsS51.drewN | apply IsS51.drew | apply IsS51.set_1 | apply IsS51.set_2 | refine IsS51.far ?_ NB177_173.out _) | exact HI177.out))) : gb184 ≠ g177)); clear BK173; clear HI177; clear HB; have BK173 := n0_; have HI177 := n1_; have HB := n2_; have BK184 := n3_; have GW184 := n4_; have GE184 := n5_; have NB173_184 := n6_; have NB184_173 := n7_; have NB177_184 := n8_; have NB184_177 := n9_; clear n0_ n1_ n2_ n3_ n4_ n5_ n6_ n7_ n8_ n9_; clear hb hbox hg; have hnb13 := NB184_173.out; have hnc13 := NB173_184.out; have hnb14 := NB184_177.out; have hnc14 := NB177_184.out; have hcz15_0 : w12.cell? ⟨gb184, 0, none⟩ = some (.bool false) := (blk_cell BK184.out 0).trans rfl; have hcz15_1 : w12.cell? ⟨gb184, 1, none⟩ = some (.slice none 0 0) := (blk_cell BK184.out 1).trans rfl; have hcz15_2 : w12.cell? ⟨gb184, 2, none⟩ = some (.slice none 0 0) := (blk_cell BK184.out 2).trans rfl; have hcz15_3 : w12.cell? ⟨gb184, 3, none⟩ = some (.slice none 0 0) := (blk_cell BK184.out 3).trans rfl; have hfz15_0 := blk_frozen BK184.out 0; have hfz15_1 := blk_frozen BK184.out 1; have hfz15_2 := blk_frozen BK184.out 2; have hfz15_3 := blk_frozen BK184.out 3))
    (try simp only [Act.put, List.setIfInBounds_toArray, List.set_cons_zero, List.set_cons_succ])
    go_cut [] (fun wc => ∃ (kq : Nat) (x178001_5 : Bool) (x178002_5 : Int) (x185003_5 : List Int) (u185003 : Value), Aside0 (node_Take.j0 kq l0 t181 t174 x178001_5 x178002_5 (t178 == 1) x185003_5 = some (r1, r2, r3, r4, r5)) ∧ Aside0 (kq ≤ k) ∧ Aside0 (Kd.R (Kd.int .i64) 3 wc w.heap.size (fun _ => True) u185003 x185003_5) ∧ Aside0 (wc.heap[gb173]? = some (.cells #[.bool false, (.slice none 0 0), (.slice none 0 0), (.slice none 0 0)] 25 (0, 0))) ∧ Aside0 (wc.heap[gb184]? = some (.cells #[.bool (t178 == 1), (.slice none 0 0), (.slice none 0 0), u185003] 25 (0, 0))) ∧ Aside0 (IsS51 w wc g177 t174 x178001_5 x178002_5) ∧ Aside0 (Below w.heap.size w wc))
    case first =>
      have H := HC6.out
      clear HC6
      by_cases c16 : t178 = 1
      · rw [if_pos c16] at H
        have c16b0 : (t178 == 1) = true := beq_iff_eq.mpr c16
        have c16b1 : (t178 != 1) = false := bne_eq_false_iff_eq.mpr c16
        clear c16
        (first | rw [c16b0] | (simp only [i64_w, i32_w]; rw [c16b0]) | skip)
        rw [c16b0] at H
        have H' := Aside0.mk H
        clear H
        go_wp2
        go_meet
        case rel => rw [c16b0]; exact ⟨_, (t182), (t183), (([] : List Int)), (.slice none 0 0), H', ⟨by first | omega | exact Nat.le_refl _⟩, ⟨by first | exact Kd.R_nil _ _ _ _ _ | exact Kd.N_nil _ _ _ _ _ | exact Kd.V_nil _ _ _ _ _ | exact Kd.Q_nil _ _ _ _ _ | exact Kd.S_nil _ _ _ _ _⟩, ⟨by (with_reducible repeat (first | refine blk_drewN ?_ _ | refine blk_drew ?_ | refine blk_alloc ?_ _)); refine blk_far ?_ NB173_184.out _; (with_reducible repeat (first | refine blk_drewN ?_ _ | refine blk_drew ?_ | refine blk_alloc ?_ _)); refine blk_far ?_ NB173_184.out _; (with_reducible repeat (first | refine blk_drewN ?_ _ | refine blk_drew ?_ | refine blk_alloc ?_ _)); refine blk_far ?_ NB173_184.out _; (with_reducible repeat (first | refine blk_drewN ?_ _ | refine blk_drew ?_ | refine blk_alloc ?_ _)); refine blk_far ?_ NB173_184.out _; (with_reducible repeat (first | refine blk_drewN ?_ _ | refine blk_drew ?_ | refine blk_alloc ?_ _)); exact BK173.out⟩, ⟨by (with_reducible repeat (first | refine blk_drewN ?_ _ | refine blk_drew ?_ | refine blk_alloc ?_ _)); refine blk_put (cs := #[.bool true, .slice none 0 0, .slice none 0 0, .slice none 0 0]) ?_ 3 _ rfl; (with_reducible repeat (first | refine blk_drewN ?_ _ | refine blk_drew ?_ | refine blk_alloc ?_ _)); refine blk_put (cs := #[.bool true, .slice none 0 0, .slice none 0 0, .slice none 0 0]) ?_ 2 _ rfl; (with_reducible repeat (first | refine blk_drewN ?_ _ | refine blk_drew ?_ | refine blk_alloc ?_ _)); refine blk_put (cs := #[.bool true, .slice none 0 0, .slice none 0 0, .slice none 0 0]) ?_ 1 _ rfl; (with_reducible repeat (first | refine blk_drewN ?_ _ | refine blk_drew ?_ | refine blk_alloc ?_ _)); refine blk_put (cs := #[.bool false, .slice none 0 0, .slice none 0 0, .slice none 0 0]) ?_ 0 _ rfl; (with_reducible repeat (first | refine blk_drewN ?_ _ | refine blk_drew ?_ | refine blk_alloc ?_ _)); exact BK184.out⟩, ⟨by repeat (first | (with_reducible first | exact HI177.out | apply IsS51.alloc | apply IsS51.drewN | apply IsS51.drew | apply IsS51.set_1 | apply IsS51.set_2 | refine IsS51.far ?_ NB177_173.out _ | refine IsS51.far ?_ NB177_184.out _) | exact HI177.out)⟩, ⟨by repeat (first | (with_reducible first | exact HB.out | apply below_alloc | apply pw_below_drewN | apply below_drew1 | refine below_set ?_ (IsS51.ge HI177.out) | refine below_set ?_ GE173.out | refine below_set ?_ GE184.out) | exact HB.out)⟩⟩
      · rw [if_neg c16] at H
        have c16b0 : (t178 == 1) = false := beq_eq_false_iff_ne.mpr c16
        have c16b1 : (t178 != 1) = true := bne_iff_ne.mpr c16
        (first | rw [c16b0] | (simp only [i64_w, i32_w]; rw [c16b0]) | skip)
        rw [c16b0] at H
        replace H := Option.bind_eq_some_iff.mp H
        obtain ⟨⟨t185, t186, t187⟩, A170, H⟩ := H
        replace H : (if ([] : List Int).length < 17592186044416 then (node_Take.j0 k l0 t181 t174 t186 t187 false (([] : List Int) ++ [t185])) else (none)) = some (r1, r2, r3, r4, r5) := H
        have A17 := Aside0.mk A170
        clear A170
        by_cases c18 : ([] : List Int).length < 17592186044416
        · rw [if_pos c18] at H
          have LMc18 := Aside0.mk c18
          clear c18
          obtain ⟨y188, hy188⟩ : ∃ y_ : List Int, y_ = (([] : List Int) ++ [t185]) := ⟨_, rfl⟩
          replace H : (node_Take.j0 k l0 t181 t174 t186 t187 false y188) = some (r1, r2, r3, r4, r5) := by first | (rw [hy188]; with_reducible exact H) | (have H2_ := (Option.bind_some _ _).symm.trans H; rw [hy188]; with_reducible exact H2_) | (have H2_ := (Option.bind_some _ _).symm.trans H; with_reducible exact H2_) | with_reducible exact H | (rw [hy188]; exact H) | exact H
          have Ny188 := Aside0.mk hy188
          clear hy188
          have H' := Aside0.mk H
          clear H
          try go_wp2
          have n0_ : Aside0 (((((w12.setCell ⟨gb184, 0, none⟩ (.bool false)).setCell ⟨gb184, 1, none⟩ (.slice none 0 0)).setCell ⟨gb184, 2, none⟩ (.slice none 0 0)).setCell ⟨gb184, 3, none⟩ (.slice none 0 0)).heap[gb173]? = some (.cells #[.bool false, .slice none 0 0, .slice none 0 0, .slice none 0 0] 25 (0, 0))) := ⟨by (with_reducible repeat (first | refine blk_drewN ?_ _ | refine blk_drew ?_ | refine blk_alloc ?_ _)); refine blk_far ?_ NB173_184.out _; (with_reducible repeat (first | refine blk_drewN ?_ _ | refine blk_drew ?_ | refine blk_alloc ?_ _)); refine blk_far ?_ NB173_184.out _; (with_reducible repeat (first | refine blk_drewN ?_ _ | refine blk_drew ?_ | refine blk_alloc ?_ _)); refine blk_far ?_ NB173_184.out _; (with_reducible repeat (first | refine blk_drewN ?_ _ | refine blk_drew ?_ | refine blk_alloc ?_ _)); refine blk_far ?_ NB173_184.out _; (with_reducible repeat (first | refine blk_drewN ?_ _ | refine blk_drew ?_ | refine blk_alloc ?_ _)); exact BK173.out⟩
          have n1_ : Aside0 (((((w12.setCell ⟨gb184, 0, none⟩ (.bool false)).setCell ⟨gb184, 1, none⟩ (.slice none 0 0)).setCell ⟨gb184, 2, none⟩ (.slice none 0 0)).setCell ⟨gb184, 3, none⟩ (.slice none 0 0)).heap[gb184]? = some (.cells #[.bool false, .slice none 0 0, .slice none 0 0, .slice none 0 0] 25 (0, 0))) := ⟨by (with_reducible repeat (first | refine blk_drewN ?_ _ | refine blk_drew ?_ | refine blk_alloc ?_ _)); refine blk_put (cs := #[.bool false, .slice none 0 0, .slice none 0 0, .slice none 0 0]) ?_ 3 _ rfl; (with_reducible repeat (first | refine blk_drewN ?_ _ | refine blk_drew ?_ | refine blk_alloc ?_ _)); refine blk_put (cs := #[.bool false, .slice none 0 0, .slice none 0 0, .slice none 0 0]) ?_ 2 _ rfl; (with_reducible repeat (first | refine blk_drewN ?_ _ | refine blk_drew ?_ | refine blk_alloc ?_ _)); refine blk_put (cs := #[.bool false, .slice none 0 0, .slice none 0 0, .slice none 0 0]) ?_ 1 _ rfl; (with_reducible repeat (first | refine blk_drewN ?_ _ | refine blk_drew ?_ | refine blk_alloc ?_ _)); refine blk_put (cs := #[.bool false, .slice none 0 0, .slice none 0 0, .slice none 0 0]) ?_ 0 _ rfl; (with_reducible repeat (first | refine blk_drewN ?_ _ | refine blk_drew ?_ | refine blk_alloc ?_ _)); exact BK184.out⟩
          have n2_ : Aside0 (IsS51 w ((((w12.setCell ⟨gb184, 0, none⟩ (.bool false)).setCell ⟨gb184, 1, none⟩ (.slice none 0 0)).setCell ⟨gb184, 2, none⟩ (.slice none 0 0)).setCell ⟨gb184, 3, none⟩ (.slice none 0 0)) g177 t174 t182 t183) := ⟨by repeat (first | (with_reducible first | exact HI177.out | apply IsS51.alloc | apply IsS51.drewN | apply IsS51.drew | apply IsS51.set_1 | apply IsS51.set_2 | refine IsS51.far ?_ NB177_173.out _ | refine IsS51.far ?_ NB177_184.out _) | exact HI177.out)⟩
          have n3_ : Aside0 (Below w.heap.size w ((((w12.setCell ⟨gb184, 0, none⟩ (.bool false)).setCell ⟨gb184, 1, none⟩ (.slice none 0 0)).setCell ⟨gb184, 2, none⟩ (.slice none 0 0)).setCell ⟨gb184, 3, none⟩ (.slice none 0 0))) := ⟨by repeat (first | (with_reducible first | exact HB.out | apply below_alloc | apply pw_below_drewN | apply below_drew1 | refine below_set ?_ (IsS51.ge HI177.out) | refine below_set ?_ GE173.out | refine below_set ?_ GE184.out) | exact HB.out)⟩
          (try clear BK173)
          (try clear BK184)
          (try clear HI177)
          (try clear HB)
          generalize ((((w12.setCell ⟨gb184, 0, none⟩ (.bool false)).setCell ⟨gb184, 1, none⟩ (.slice none 0 0)).setCell ⟨gb184, 2, none⟩ (.slice none 0 0)).setCell ⟨gb184, 3, none⟩ (.slice none 0 0)) = w19 at n0_ n1_ n2_ n3_ ⊢
          have BK173 := n0_
          have BK184 := n1_
          have HI177 := n2_
          have HB := n3_
          clear n0_ n1_ n2_ n3_
          have n0_ := Aside0.mk (blk_drew BK173.out)
          have n1_ := Aside0.mk (blk_drew BK184.out)
          have n2_ := Aside0.mk (IsS51.drew HI177.out)
          have n3_ := Aside0.mk (below_drew1 HB.out)
          clear BK173
          clear BK184
          clear HI177
          clear HB
          have BK173 := n0_
          have BK184 := n1_
          have HI177 := n2_
          have HB := n3_
          clear n0_ n1_ n2_ n3_
          refine start_ (n := 8) (S := fun w' => w'.cell? ⟨gb184, 0, none⟩ = some (.bool false) ∧ w'.cell? ⟨gb184, 1, none⟩ = some (.slice none 0 0) ∧ w'.cell? ⟨gb184, 2, none⟩ = some (.slice none 0 0) ∧ w'.cell? ⟨gb184, 3, none⟩ = some (.slice none 0 0)) (ds := [7]) #[false, false, false, false, false, false, false, false] (by kernel_rfl) rfl rfl ⟨(blk_cell BK184.out 0).trans rfl, (blk_cell BK184.out 1).trans rfl, (blk_cell BK184.out 2).trans rfl, (blk_cell BK184.out 3).trans rfl⟩ (fun hHeld => ?_); refine with_tabW node_Take.tab7 node_Take.bits7 (fun HT_ HW_ => ?_)
          generalize w19.drew = w20 at BK173 BK184 HI177 HB hHeld ⊢
          refine pure_ (i := 0) (N := some 29) (v := ?_) (a' := ?_) #[true, false, false, false, false, false, false, false] rfl rfl (any_of HT_.out (by kernel_rfl)) (fun _ _ _ h => h) (Or.inl ⟨by rfl, ?_⟩) ?_ ?_
          rotate_left
          · intro w'
            go_simp
            with_reducible rfl
          rotate_left
          · simp only [Act.put, List.setIfInBounds_toArray, List.set_cons_zero, List.set_cons_succ, i64_w, i32_w]
            rfl
          refine pure_ (i := 2) (N := some 31) (v := ?_) (a' := ?_) #[true, false, true, false, false, false, false, false] rfl rfl (any_of HT_.out (by kernel_rfl)) (fun _ _ _ h => h) (Or.inl ⟨by rfl, ?_⟩) ?_ ?_
          rotate_left
          · intro w'
            go_simp
            with_reducible rfl
          rotate_left
          · simp only [Act.put, List.setIfInBounds_toArray, List.set_cons_zero, List.set_cons_succ, i64_w, i32_w]
            rfl
          refine take_ (i := 1) (N := some 30) (v := ?_) (a' := ?_) #[true, true, true, false, false, false, false, false] rfl rfl (take_ofW HT_.out HW_.out (by kernel_rfl)) (fun _ _ _ h => h) (Or.inl ⟨by rfl, ?_⟩) hHeld ?_ ?_
          rotate_left
          · rintro w' ⟨s0, s1, s2, s3⟩
            go_simp
            with_reducible rfl
          rotate_left
          · simp only [Act.put, List.setIfInBounds_toArray, List.set_cons_zero, List.set_cons_succ, i64_w, i32_w]
            rfl
          refine one_ (i := 3) (N := some 32) #[true, true, true, true, false, false, false, false] rfl rfl (one_of HT_.out (by kernel_rfl)) (by decide) (fun K hK => ?_)
          refine goes_ Try.func29 (by kernel_rfl) rfl #[.pointer (some ⟨g177, 0, none⟩)] (by rfl) rfl rfl (by (try simp only [List.map_toArray, List.map_cons, List.map_nil]); first | done | rfl | (simp only [List.length_drop, List.length_take]; rfl)) ?_
          with_reducible refine (node_number4.calls g177 t174 t182 t183 t185 t186 t187 w _ ?side1 ?side2 A17.out).mono ?_
          (case side1 => repeat (first | (with_reducible first | exact HI177.out | apply IsS51.alloc | apply IsS51.drewN | apply IsS51.drew | apply IsS51.set_1 | apply IsS51.set_2 | refine IsS51.far ?_ NB177_173.out _ | refine IsS51.far ?_ NB177_184.out _) | exact HI177.out))
          (case side2 => repeat (first | (with_reducible first | exact HB.out | apply below_alloc | apply pw_below_drewN | apply below_drew1 | refine below_set ?_ (IsS51.ge HI177.out) | refine below_set ?_ GE173.out | refine below_set ?_ GE184.out) | exact HB.out))
          rintro e w21 ⟨rfl, hi, hb, hk⟩
          refine ⟨_, rfl, ?_⟩
          have n0_ := Aside0.mk (KeepBut.blk hk (g' := gb173) (o := .cells #[.bool false, .slice none 0 0, .slice none 0 0, .slice none 0 0] 25 (0, 0)) (by (with_reducible repeat (first | refine blk_drewN ?_ _ | refine blk_drew ?_ | refine blk_alloc ?_ _)); exact BK173.out) NB173_177.out (by simp))
          have n1_ := Aside0.mk (KeepBut.blk hk (g' := gb184) (o := .cells #[.bool false, .slice none 0 0, .slice none 0 0, .slice none 0 0] 25 (0, 0)) (by (with_reducible repeat (first | refine blk_drewN ?_ _ | refine blk_drew ?_ | refine blk_alloc ?_ _)); exact BK184.out) NB184_177.out (by simp))
          have n2_ := Aside0.mk (hb)
          have n3_ := Aside0.mk (hi)
          clear BK173
          clear BK184
          clear HB
          clear HI177
          have BK173 := n0_
          have BK184 := n1_
          have HB := n2_
          have HI177 := n3_
          clear n0_ n1_ n2_ n3_
          (try clear hb)
          (try clear hb2)
          (try clear hk)
          (try clear hi)
          refine hK.out _ _ ⟨(blk_cell BK184.out 0).trans rfl, (blk_cell BK184.out 1).trans rfl, (blk_cell BK184.out 2).trans rfl, (blk_cell BK184.out 3).trans rfl⟩ (fun hHeld => ?_)
          clear hK K
          refine norm_ (a' := ?_) ?_ ?_
          rotate_left
          · show Act.put _ (some 32) _ = _
            simp only [Act.put, List.setIfInBounds_toArray, List.set_cons_zero, List.set_cons_succ, i64_w, i32_w]
            rfl
          refine one_ (i := 4) (N := some 33) #[true, true, true, true, true, false, false, false] rfl rfl (one_of HT_.out (by kernel_rfl)) (by decide) (fun K hK => ?_)
          refine value_ (w1 := ?_) (v := ?_) (by rfl) rfl ?_ ?_
          rotate_left 2
          · go_simp
            constructor
            · rfl
            · rfl
          refine hK.out _ _ ⟨(blk_cell (blk_alloc BK184.out _) 0).trans rfl, (blk_cell (blk_alloc BK184.out _) 1).trans rfl, (blk_cell (blk_alloc BK184.out _) 2).trans rfl, (blk_cell (blk_alloc BK184.out _) 3).trans rfl⟩ (fun hHeld => ?_)
          clear hK K
          refine norm_ (a' := ?_) ?_ ?_
          rotate_left
          · show Act.put _ (some 33) _ = _
            simp only [Act.put, List.setIfInBounds_toArray, List.set_cons_zero, List.set_cons_succ, i64_w, i32_w]
            rfl
          refine one_ (i := 5) (N := some 34) #[true, true, true, true, true, true, false, false] rfl rfl (one_of HT_.out (by kernel_rfl)) (by decide) (fun K hK => ?_)
          refine Kd.R_append_step (Kd.int .i64) (w0 := w) w.heap.size (by rfl) (.tmp 30) (.tmp 33) 23 3 (.int .i64 0) 8 rfl Try.underlying23 info3 rfl (by decide) (by omega) (.slice none 0 0) ([] : List Int) t185 [.int .i64 t185] (fun _ => True) (fun _ => False) rfl rfl ?aP (fun _ hk => hk.elim) ?aF ?aO ?aB ?aS ?aL ?_
          (case aP => exact rfl)
          (case aB => exact (by repeat (first | (with_reducible first | exact HB.out | apply below_alloc | apply pw_below_drewN | apply below_drew1 | refine below_set ?_ (IsS51.ge HI177.out) | refine below_set ?_ GE173.out | refine below_set ?_ GE184.out) | exact HB.out)))
          (case aF => exact (fun _ _ => trivial))
          (case aO => exact ((Kd.R_nil _ _ _ _ (fun _ => True))))
          (case aS => exact (below_size (by repeat (first | (with_reducible first | exact HB.out | apply below_alloc | apply pw_below_drewN | apply below_drew1 | refine below_set ?_ (IsS51.ge HI177.out) | refine below_set ?_ GE173.out | refine below_set ?_ GE184.out) | exact HB.out))))
          (case aL => have := LMc18.out; omega)
          intro v189 w22 ho hb hg hat
          rw [← Ny188.out] at ho
          have n0_ := Aside0.mk (blk_grown (g := gb173) (o := .cells #[.bool false, .slice none 0 0, .slice none 0 0, .slice none 0 0] 25 (0, 0)) (by (with_reducible repeat (first | refine blk_drewN ?_ _ | refine blk_drew ?_ | refine blk_alloc ?_ _)); exact BK173.out) hg (by simp [Value.ownBlock]))
          have n1_ := Aside0.mk (IsS51.grown (by repeat (first | (with_reducible first | exact HI177.out | apply IsS51.alloc | apply IsS51.drewN | apply IsS51.drew | apply IsS51.set_1 | apply IsS51.set_2 | refine IsS51.far ?_ NB177_173.out _ | refine IsS51.far ?_ NB177_184.out _) | exact HI177.out)) hg (by simp [Value.ownBlock]))
          have n2_ := Aside0.mk (blk_grown (g := gb184) (o := .cells #[.bool false, .slice none 0 0, .slice none 0 0, .slice none 0 0] 25 (0, 0)) (by (with_reducible repeat (first | refine blk_drewN ?_ _ | refine blk_drew ?_ | refine blk_alloc ?_ _)); exact BK184.out) hg (by simp [Value.ownBlock]))
          have n3_ := Aside0.mk (hb)
          have n4_ := Aside0.mk (ho)
          clear BK173
          clear HI177
          clear BK184
          clear HB
          have BK173 := n0_
          have HI177 := n1_
          have BK184 := n2_
          have HB := n3_
          have HO190 := n4_
          clear n0_ n1_ n2_ n3_ n4_
          clear ho hb hg hat
          obtain ⟨Ao23, co23, eo23⟩ := Kd.R_slice HO190.out
          (first | subst eo23 | (injection eo23 with f1_ f2_ f3_; have f4_ := f1_.symm; have f5_ := f3_.symm; clear f1_ f2_ f3_; subst f4_; subst f5_))
          refine hK.out _ _ ⟨(blk_cell BK184.out 0).trans rfl, (blk_cell BK184.out 1).trans rfl, (blk_cell BK184.out 2).trans rfl, (blk_cell BK184.out 3).trans rfl⟩ (fun hHeld => ?_)
          clear hK K
          refine norm_ (a' := ?_) ?_ ?_
          rotate_left
          · show Act.put _ (some 34) _ = _
            simp only [Act.put, List.setIfInBounds_toArray, List.set_cons_zero, List.set_cons_succ, i64_w, i32_w]
            rfl
          refine pure_ (i := 6) (N := some 35) (v := ?_) (a' := ?_) #[true, true, true, true, true, true, true, false] rfl rfl (any_of HT_.out (by kernel_rfl)) (fun _ _ _ h => h) (Or.inl ⟨by rfl, ?_⟩) ?_ ?_
          rotate_left
          · intro w'
            go_simp
            with_reducible rfl
          rotate_left
          · simp only [Act.put, List.setIfInBounds_toArray, List.set_cons_zero, List.set_cons_succ, i64_w, i32_w]
            rfl
          refine last_ (i := 7) (N := none) #[true, true, true, true, true, true, true, true] rfl rfl (one_of HT_.out (by kernel_rfl)) (by decide) (fun K hK => ?_)
          have hs24 : w22.cell? ⟨gb184, 3, none⟩ = some (.slice none 0 0) := (blk_cell BK184.out 3).trans rfl
          have hfs24 := blk_frozen BK184.out 3
          have hns24_0 := NB173_184.out
          have hms24_0 := NB184_173.out
          refine skip_ (w1 := ?_) (by rfl) rfl ?_ ?_
          rotate_left
          · go_simp
            rfl
          refine hK.out _ _ ?_
          clear hK K
          refine done_ (done_of HT_.out (by kernel_rfl)) ?_
          try go_wp2
          go_meet
          case rel => rw [c16b0]; exact ⟨_, (t186), (t187), (y188), (.slice Ao23 y188.length co23), H', ⟨by first | omega | exact Nat.le_refl _⟩, ⟨by (with_reducible repeat (first | apply Kd.R_alloc | apply Kd.R_drewN | apply Kd.R_drew)); exact Kd.R_mono (Kd.R_far (p := ⟨gb184, 3, none⟩) (Kd.R_types HO190.out BK184.out (by decide)) (fun _ hk => hk.2) (.slice Ao23 y188.length co23)) (fun _ hk => trivial)⟩, ⟨by (with_reducible repeat (first | refine blk_drewN ?_ _ | refine blk_drew ?_ | refine blk_alloc ?_ _)); refine blk_far ?_ NB173_184.out _; (with_reducible repeat (first | refine blk_drewN ?_ _ | refine blk_drew ?_ | refine blk_alloc ?_ _)); exact BK173.out⟩, ⟨by (with_reducible repeat (first | refine blk_drewN ?_ _ | refine blk_drew ?_ | refine blk_alloc ?_ _)); refine blk_put (cs := #[.bool false, .slice none 0 0, .slice none 0 0, .slice none 0 0]) ?_ 3 _ rfl; (with_reducible repeat (first | refine blk_drewN ?_ _ | refine blk_drew ?_ | refine blk_alloc ?_ _)); exact BK184.out⟩, ⟨by repeat (first | (with_reducible first | exact HI177.out | apply IsS51.alloc | apply IsS51.drewN | apply IsS51.drew | apply IsS51.set_1 | apply IsS51.set_2 | refine IsS51.far ?_ NB177_173.out _ | refine IsS51.far ?_ NB177_184.out _) | exact HI177.out)⟩, ⟨by repeat (first | (with_reducible first | exact HB.out | apply below_alloc | apply pw_below_drewN | apply below_drew1 | refine below_set ?_ (IsS51.ge HI177.out) | refine below_set ?_ GE173.out | refine below_set ?_ GE184.out) | exact HB.out)⟩⟩
        · rw [if_neg c18] at H
          exact absurd H (by simp)
    case rest =>
      clear HC6
      try clear c1
      try clear c2
      try clear c2b0
      try clear c2b1
      try clear p2
      try clear c5
      try clear c13
      try clear c14
      try clear c16
      try clear c16b0
      try clear c16b1
      try clear c18
      try clear hcz15_0
      try clear hcz15_1
      try clear hcz15_2
      try clear hcz15_3
      try clear hfz15_0
      try clear hfz15_1
      try clear hfz15_2
      try clear hfz15_3
      obtain ⟨kq, x178001_5, x178002_5, x185003_5, u185003, HA, HJ5, HO_185003, BK173, BK184, HI177, HB⟩ := hcut
      cases kq with
      | zero => exact absurd HA.out (by simp [node_Take.j0])
      | succ kj5 =>
        have H := HA.out
        clear HA
        simp only [node_Take.j0] at H
        have H' := Aside0.mk H
        clear H
        try go_wp2
        have n0_ := Aside0.mk (Kd.R_drew HO_185003.out)
        have n1_ := Aside0.mk (blk_drew BK173.out)
        have n2_ := Aside0.mk (blk_drew BK184.out)
        have n3_ := Aside0.mk (IsS51.drew HI177.out)
        have n4_ := Aside0.mk (below_drew1 HB.out)
        clear HO_185003
        clear BK173
        clear BK184
        clear HI177
        clear HB
        have HO_185003 := n0_
        have BK173 := n1_
        have BK184 := n2_
        have HI177 := n3_
        have HB := n4_
        clear n0_ n1_ n2_ n3_ n4_
        refine start_ (n := 11) (S := fun w' => Below w.heap.size w w') (ds := []) #[false, false, false, false, false, false, false, false, false, false, false] (by kernel_rfl) rfl rfl HB.out (fun hHeld => ?_)
        clear hHeld
        generalize wc.drew = w25 at HO_185003 BK173 BK184 HI177 HB ⊢
        have hHeld := HB.out
        refine pure_ (i := 0) (N := some 36) (v := ?_) (a' := ?_) #[true, false, false, false, false, false, false, false, false, false, false] rfl rfl (by kernel_rfl) (fun _ _ _ h => h) (Or.inl ⟨by rfl, ?_⟩) ?_ ?_
        rotate_left
        · intro w'
          go_simp
          with_reducible rfl
        rotate_left
        · simp only [Act.put, List.setIfInBounds_toArray, List.set_cons_zero, List.set_cons_succ, i64_w, i32_w]
          rfl
        refine pure_ (i := 1) (N := some 37) (v := ?_) (a' := ?_) #[true, true, false, false, false, false, false, false, false, false, false] rfl rfl (by kernel_rfl) (fun _ _ _ h => h) (Or.inl ⟨by rfl, ?_⟩) ?_ ?_
        rotate_left
        · intro w'
          go_simp
          with_reducible rfl
        rotate_left
        · simp only [Act.put, List.setIfInBounds_toArray, List.set_cons_zero, List.set_cons_succ, i64_w, i32_w]
          rfl
        refine pure_ (i := 5) (N := some 41) (v := ?_) (a' := ?_) #[true, true, false, false, false, true, false, false, false, false, false] rfl rfl (by kernel_rfl) (fun _ _ _ h => h) (Or.inl ⟨by rfl, ?_⟩) ?_ ?_
        rotate_left
        · intro w'
          go_simp
          with_reducible rfl
        rotate_left
        · simp only [Act.put, List.setIfInBounds_toArray, List.set_cons_zero, List.set_cons_succ, i64_w, i32_w]
          rfl
        refine pure_ (i := 6) (N := some 42) (v := ?_) (a' := ?_) #[true, true, false, false, false, true, true, false, false, false, false] rfl rfl (by kernel_rfl) (fun _ _ _ h => h) (Or.inl ⟨by rfl, ?_⟩) ?_ ?_
        rotate_left
        · intro w'
          go_simp
          with_reducible rfl
        rotate_left
        · simp only [Act.put, List.setIfInBounds_toArray, List.set_cons_zero, List.set_cons_succ, i64_w, i32_w]
          rfl
        refine take_ (i := 2) (N := some 38) (v := ?_) (a' := ?_) #[true, true, true, false, false, true, true, false, false, false, false] rfl rfl (by kernel_rfl) (fun _ _ _ h => h) (Or.inl ⟨by rfl, ?_⟩) hHeld ?_ ?_
        rotate_left
        · intro w' hS_
          have hc_ := (HP2.out w' hS_).1
          go_simp
          with_reducible rfl
        rotate_left
        · simp only [Act.put, List.setIfInBounds_toArray, List.set_cons_zero, List.set_cons_succ, i64_w, i32_w]
          rfl
        refine take_ (i := 7) (N := some 43) (v := ?_) (a' := ?_) #[true, true, true, false, false, true, true, true, false, false, false] rfl rfl (by kernel_rfl) (fun _ _ _ h => h) (Or.inl ⟨by rfl, ?_⟩) hHeld ?_ ?_
        rotate_left
        · intro w' hS_
          have hc_ := (HP2.out w' hS_).2
          go_simp
          with_reducible rfl
        rotate_left
        · simp only [Act.put, List.setIfInBounds_toArray, List.set_cons_zero, List.set_cons_succ, i64_w, i32_w]
          rfl
        refine pure_ (i := 3) (N := some 39) (v := ?_) (a' := ?_) #[true, true, true, true, false, true, true, true, false, false, false] rfl rfl (by kernel_rfl) (fun _ _ _ h => h) (Or.inl ⟨by rfl, ?_⟩) ?_ ?_
        rotate_left
        · intro w'
          go_simp
          with_reducible rfl
        rotate_left
        · simp only [Act.put, List.setIfInBounds_toArray, List.set_cons_zero, List.set_cons_succ, i64_w, i32_w]
          rfl
        refine pure_ (i := 4) (N := some 40) (v := ?_) (a' := ?_) #[true, true, true, true, true, true, true, true, false, false, false] rfl rfl (by kernel_rfl) (fun _ _ _ h => h) (Or.inl ⟨by rfl, ?_⟩) ?_ ?_
        rotate_left
        · intro w'
          go_simp
          with_reducible rfl
        rotate_left
        · simp only [Act.put, List.setIfInBounds_toArray, List.set_cons_zero, List.set_cons_succ, i64_w, i32_w]
          rfl
        refine pure_ (i := 8) (N := some 44) (v := ?_) (a' := ?_) #[true, true, true, true, true, true, true, true, true, false, false] rfl rfl (by kernel_rfl) (fun _ _ _ h => h) (Or.inl ⟨by rfl, ?_⟩) ?_ ?_
        rotate_left
        · intro w'
          go_simp
          with_reducible rfl
        rotate_left
        · simp only [Act.put, List.setIfInBounds_toArray, List.set_cons_zero, List.set_cons_succ, i64_w, i32_w]
          rfl
        refine pure_ (i := 9) (N := some 45) (v := (.int .i64 t181)) (a' := ?_) #[true, true, true, true, true, true, true, true, true, true, false] rfl rfl (by kernel_rfl) (fun _ _ _ h => h) (Or.inl ⟨by rfl, ?_⟩) ?_ ?_
        skip
        · intro w'
          have e_ := HV2.out
          go_simp
          first | done | (with_reducible rfl) | rfl | (rw [e_]; rfl)
        rotate_left
        · simp only [Act.put, List.setIfInBounds_toArray, List.set_cons_zero, List.set_cons_succ, i64_w, i32_w]
          rfl
        refine pure_ (i := 10) (N := some 46) (v := ?_) (a' := ?_) #[true, true, true, true, true, true, true, true, true, true, true] rfl rfl (by kernel_rfl) (fun _ _ _ h => h) (Or.inl ⟨by rfl, ?_⟩) ?_ ?_
        rotate_left
        · intro w'
          go_simp
          with_reducible rfl
        rotate_left
        · simp only [Act.put, List.setIfInBounds_toArray, List.set_cons_zero, List.set_cons_succ, i64_w, i32_w]
          rfl
        refine done_ (by kernel_rfl) ?_
        try go_wp2
        go_loopg [46] kj5 (fun kq v46 w' => ∃ (x46_2 : Int) (x178001_2 : Bool) (x178002_2 : Int) (x185001_2 : List ByteArray) (x185002_2 : List ByteArray) (x185003_2 : List Int) (u185001 : Value) (u185002 : Value) (u185003 : Value), v46 = .int .i64 x46_2 ∧ Aside0 (node_Take.l0 kq l0 t181 x46_2 t174 x178001_2 x178002_2 (t178 == 1) x185001_2 x185002_2 x185003_2 = some (r1, r2, r3, r4, r5)) ∧ Aside0 (kq ≤ kj5) ∧ Aside0 (Kd.R Kd.string 9 w' w.heap.size (fun k_ => some k_ ≠ (u185002 : Value).ownBlock) u185001 x185001_2) ∧ Aside0 (Kd.R Kd.string 9 w' w.heap.size (fun k_ => some k_ ≠ (u185001 : Value).ownBlock) u185002 x185002_2) ∧ Aside0 (Kd.R (Kd.int .i64) 3 w' w.heap.size (fun _ => True) u185003 x185003_2) ∧ Aside0 (w'.heap[gb173]? = some (.cells #[.bool false, (.slice none 0 0), (.slice none 0 0), (.slice none 0 0)] 25 (0, 0))) ∧ Aside0 (w'.heap[gb184]? = some (.cells #[.bool (t178 == 1), u185001, u185002, u185003] 25 (0, 0))) ∧ Aside0 (IsS51 w w' g177 t174 x178001_2 x178002_2) ∧ Aside0 (Below w.heap.size w w'))
        case atStart => exact ⟨(0), (x178001_5), (x178002_5), (([] : List ByteArray)), (([] : List ByteArray)), (x185003_5), (.slice none 0 0), (.slice none 0 0), (u185003), (by first | rfl | (simp; done) | (simp [*]; done)), H', ⟨Nat.le_refl _⟩, ⟨by first | exact Kd.R_nil _ _ _ _ _ | exact Kd.N_nil _ _ _ _ _ | exact Kd.V_nil _ _ _ _ _ | exact Kd.Q_nil _ _ _ _ _ | exact Kd.S_nil _ _ _ _ _⟩, ⟨by first | exact Kd.R_nil _ _ _ _ _ | exact Kd.N_nil _ _ _ _ _ | exact Kd.V_nil _ _ _ _ _ | exact Kd.Q_nil _ _ _ _ _ | exact Kd.S_nil _ _ _ _ _⟩, ⟨by (with_reducible repeat (first | apply Kd.R_alloc | apply Kd.R_drewN | apply Kd.R_drew)); exact HO_185003.out⟩, ⟨by (with_reducible repeat (first | refine blk_drewN ?_ _ | refine blk_drew ?_ | refine blk_alloc ?_ _)); exact BK173.out⟩, ⟨by (with_reducible repeat (first | refine blk_drewN ?_ _ | refine blk_drew ?_ | refine blk_alloc ?_ _)); exact BK184.out⟩, ⟨by repeat (first | (with_reducible first | exact HI177.out | apply IsS51.alloc | apply IsS51.drewN | apply IsS51.drew | apply IsS51.set_1 | apply IsS51.set_2 | refine IsS51.far ?_ NB177_173.out _ | refine IsS51.far ?_ NB177_184.out _) | exact HI177.out)⟩, ⟨by repeat (first | (with_reducible first | exact HB.out | apply below_alloc | apply pw_below_drewN | apply below_drew1 | refine below_set ?_ (IsS51.ge HI177.out) | refine below_set ?_ GE173.out | refine below_set ?_ GE184.out) | exact HB.out)⟩⟩
        case round =>
          clear H'
          try clear c1
          try clear c2
          try clear c2b0
          try clear c2b1
          try clear p2
          try clear c5
          try clear c13
          try clear c14
          try clear c16
          try clear c16b0
          try clear c16b1
          try clear c18
          try clear hcz15_0
          try clear hcz15_1
          try clear hcz15_2
          try clear hcz15_3
          try clear hfz15_0
          try clear hfz15_1
          try clear hfz15_2
          try clear hfz15_3
          try clear p2
          obtain ⟨x46_2, x178001_2, x178002_2, x185001_2, x185002_2, x185003_2, u185001, u185002, u185003, rfl, HA, HK2, HO_185001, HO_185002, HO_185003, BK173, BK184, HI177, HB⟩ := hrel
          cases gk with
          | zero => exact absurd HA.out (by simp [node_Take.l0])
          | succ k2 =>
            have H := HA.out
            clear HA
            simp only [node_Take.l0] at H
            by_cases c26 : x46_2 < t181
            · rw [if_pos c26] at H
              have c26b0 : decide (x46_2 < t181) = true := decide_eq_true c26
              clear c26
              by_cases c27 : x178001_2 = true
              · subst c27
                have H1 : ((node_put.f k2 (t178 == 1) x185001_2 x185002_2 x185003_2).bind fun bt195 => (some (false, ([] : List ByteArray), ([] : List ByteArray), ([] : List Int), 200))) = some (r1, r2, r3, r4, r5) := by rw [if_pos rfl] at H; exact H
                clear H
                have H := H1
                clear H1
                replace H := Option.bind_eq_some_iff.mp H
                obtain ⟨⟨t195, t198⟩, A280, H⟩ := H
                replace H : (some (false, ([] : List ByteArray), ([] : List ByteArray), ([] : List Int), 200)) = some (r1, r2, r3, r4, r5) := H
                have A28 := Aside0.mk A280
                clear A280
                simp only [Option.some.injEq, Prod.mk.injEq] at H
                obtain ⟨rfl, rfl, rfl, rfl, rfl⟩ := H
                obtain ⟨ASz29_0, cSz29_0, ja_, jb_, jc_, jd_, HGz29, hgz29, HSz29_0⟩ := HI177.out; clear ja_ jb_ jc_ jd_ HSz29_0
                have hcz29_0 := cellS51_0 HGz29
                have hcz29_1 := cellS51_1 HGz29
                have hfz29_1 := blk_frozen HGz29 1
                clear HGz29 hgz29
                have hnb30 := NB184_173.out
                have hnc30 := NB173_184.out
                have hnb31 := NB184_177.out
                have hnc31 := NB177_184.out
                have hcz32_0 : wr.cell? ⟨gb184, 0, none⟩ = some (.bool (t178 == 1)) := (blk_cell BK184.out 0).trans rfl
                have hcz32_1 : wr.cell? ⟨gb184, 1, none⟩ = some (u185001) := (blk_cell BK184.out 1).trans rfl
                have hcz32_2 : wr.cell? ⟨gb184, 2, none⟩ = some (u185002) := (blk_cell BK184.out 2).trans rfl
                have hcz32_3 : wr.cell? ⟨gb184, 3, none⟩ = some (u185003) := (blk_cell BK184.out 3).trans rfl
                have hfz32_0 := blk_frozen BK184.out 0
                have hfz32_1 := blk_frozen BK184.out 1
                have hfz32_2 := blk_frozen BK184.out 2
                have hfz32_3 := blk_frozen BK184.out 3
                obtain ⟨Ao33, co33, eo33⟩ := Kd.R_slice HO_185001.out
                subst eo33
                obtain ⟨Ao34, co34, eo34⟩ := Kd.R_slice HO_185002.out
                subst eo34
                obtain ⟨Ao35, co35, eo35⟩ := Kd.R_slice HO_185003.out
                subst eo35
                go_wp2_with (first | ((with_reducible refine gate_callee (f := 31) rfl ?_); refine goesL_ (some 78) rfl rfl Try.func31 (by kernel_rfl) rfl #[.agg #[.bool (t178 == 1), .slice Ao33 x185001_2.length co33, .slice Ao34 x185002_2.length co34, .slice Ao35 x185003_2.length co35]] rfl (by (try simp only [List.map_toArray, List.map_cons, List.map_nil]); first | done | rfl | (simp only [List.length_drop, List.length_take]; rfl)) ?_; (with_reducible refine (node_put.calls k2 (t178 == 1) _ _ x185001_2 _ _ x185002_2 _ _ x185003_2 t195 t198 _ ?side1 ?side2 ?side3 ?side4 ?side5 ?side6 A28.out).mono ?_); (case side1 => repeat (first | exact (Kd.R_reads' HO_185001.out).2.2 | (with_reducible refine Kd.C_alloc ?_ _) | (with_reducible refine Kd.C_drewN ?_ _) | (with_reducible refine Kd.C_drew ?_))); (case side2 => exact (Kd.R_reads' HO_185001.out).2.1); (case side3 => repeat (first | exact (Kd.R_reads' HO_185002.out).2.2 | (with_reducible refine Kd.C_alloc ?_ _) | (with_reducible refine Kd.C_drewN ?_ _) | (with_reducible refine Kd.C_drew ?_))); (case side4 => exact (Kd.R_reads' HO_185002.out).2.1); (case side5 => repeat (first | exact (Kd.R_reads' HO_185003.out).2.2 | (with_reducible refine Kd.C_alloc ?_ _) | (with_reducible refine Kd.C_drewN ?_ _) | (with_reducible refine Kd.C_drew ?_))); (case side6 => exact (Kd.R_reads' HO_185003.out).2.1); rintro e w36 ⟨v196, rfl, ho0, hb⟩; refine ⟨_, rfl, ?_⟩; have n0_ := Aside0.mk (Kd.R_below (by (with_reducible repeat (first | apply Kd.R_alloc | apply Kd.R_drewN | apply Kd.R_drew)); exact HO_185001.out) hb); have n1_ := Aside0.mk (Kd.R_below (by (with_reducible repeat (first | apply Kd.R_alloc | apply Kd.R_drewN | apply Kd.R_drew)); exact HO_185002.out) hb); have n2_ := Aside0.mk (Kd.R_below (by (with_reducible repeat (first | apply Kd.R_alloc | apply Kd.R_drewN | apply Kd.R_drew)); exact HO_185003.out) hb); have n3_ := Aside0.mk (Kd.R_lower ho0 (below_size (by repeat (first | (with_reducible first | exact HB.out | apply below_alloc | apply pw_below_drewN | apply below_drew1 | refine below_set ?_ (IsS51.ge HI177.out) | refine below_set ?_ GE173.out | refine below_set ?_ GE184.out) | exact HB.out)))); have n4_ := Aside0.mk (blk_below (g := gb173) (o := .cells #[.bool false, .slice none 0 0, .slice none 0 0, .slice none 0 0] 25 (0, 0)) (by (with_reducible repeat (first | refine blk_drewN ?_ _ | refine blk_drew ?_ | refine blk_alloc ?_ _)); exact BK173.out) hb); have n5_ := Aside0.mk (blk_below (g := gb184) (o := .cells #[.bool (t178 == 1), .slice Ao33 x185001_2.length co33, .slice Ao34 x185002_2.length co34, .slice Ao35 x185003_2.length co35] 25 (0, 0)) (by (with_reducible repeat (first | refine blk_drewN ?_ _ | refine blk_drew ?_ | refine blk_alloc ?_ _)); exact BK184.out) hb); have n6_ := Aside0.mk (IsS51.below (by repeat (first | (with_reducible first | exact HI177.out | apply IsS51.alloc | apply IsS51.drewN | apply IsS51.drew | apply IsS51.set_1 | apply IsS51.set_2 | refine IsS51.far ?_ NB177_173.out _ | refine IsS51.far ?_ NB177_184.out _) | exact HI177.out)) hb); have n7_ := Aside0.mk (below_step (by repeat (first | (with_reducible first | exact HB.out | apply below_alloc | apply pw_below_drewN | apply below_drew1 | refine below_set ?_ (IsS51.ge HI177.out) | refine below_set ?_ GE173.out | refine below_set ?_ GE184.out) | exact HB.out)) hb); clear HO_185001; clear HO_185002; clear HO_185003; clear BK173; clear BK184; clear HI177; clear HB; have HO_185001 := n0_; have HO_185002 := n1_; have HO_185003 := n2_; have HO197 := n3_; have BK173 := n4_; have BK184 := n5_; have HI177 := n6_; have HB := n7_; clear n0_ n1_ n2_ n3_ n4_ n5_ n6_ n7_; (try clear hb); (try clear hb2); (try clear hk); (try clear hi); (try clear ho0); obtain ⟨ASz37_0, cSz37_0, ja_, jb_, jc_, jd_, HGz37, hgz37, HSz37_0⟩ := HI177.out; clear ja_ jb_ jc_ jd_ HSz37_0; have hcz37_0 := cellS51_0 HGz37; have hcz37_1 := cellS51_1 HGz37; have hcz37_2 := cellS51_2 HGz37; have hfz37_1 := blk_frozen HGz37 1; have hfz37_2 := blk_frozen HGz37 2; clear HGz37 hgz37; have hnb38 := NB173_177.out; have hnc38 := NB177_173.out; have hcz39_0 : w36.cell? ⟨gb173, 0, none⟩ = some (.bool false) := (blk_cell BK173.out 0).trans rfl; have hcz39_1 : w36.cell? ⟨gb173, 1, none⟩ = some (.slice none 0 0) := (blk_cell BK173.out 1).trans rfl; have hcz39_2 : w36.cell? ⟨gb173, 2, none⟩ = some (.slice none 0 0) := (blk_cell BK173.out 2).trans rfl; have hcz39_3 : w36.cell? ⟨gb173, 3, none⟩ = some (.slice none 0 0) := (blk_cell BK173.out 3).trans rfl; have hfz39_0 := blk_frozen BK173.out 0; have hfz39_1 := blk_frozen BK173.out 1; have hfz39_2 := blk_frozen BK173.out 2; have hfz39_3 := blk_frozen BK173.out 3))
                refine bodyPost_ret (results_ct rfl _ _ gb173 25 #[.bool false, .slice none 0 0, .slice none 0 0, .slice none 0 0] (0, 0) _ rfl (by (with_reducible repeat (first | refine blk_drewN ?_ _ | refine blk_drew ?_ | refine blk_alloc ?_ _)); refine blk_put (cs := #[.bool false, .slice none 0 0, .slice none 0 0, .slice none 0 0]) ?_ 3 _ rfl; (with_reducible repeat (first | refine blk_drewN ?_ _ | refine blk_drew ?_ | refine blk_alloc ?_ _)); refine blk_put (cs := #[.bool false, .slice none 0 0, .slice none 0 0, .slice none 0 0]) ?_ 2 _ rfl; (with_reducible repeat (first | refine blk_drewN ?_ _ | refine blk_drew ?_ | refine blk_alloc ?_ _)); refine blk_put (cs := #[.bool false, .slice none 0 0, .slice none 0 0, .slice none 0 0]) ?_ 1 _ rfl; (with_reducible repeat (first | refine blk_drewN ?_ _ | refine blk_drew ?_ | refine blk_alloc ?_ _)); refine blk_put (cs := #[.bool false, .slice none 0 0, .slice none 0 0, .slice none 0 0]) ?_ 0 _ rfl; (with_reducible repeat (first | refine blk_drewN ?_ _ | refine blk_drew ?_ | refine blk_alloc ?_ _)); exact BK173.out) Try.underlying25 rfl (by kernel_rfl)) rfl ?_
                exact ⟨_, _, _, by first | rfl | (simp [errW_none, errW_some] <;> rfl) | (simp [*, errW_none, errW_some] <;> rfl), by first | exact Kd.R_nil _ _ _ _ _ | exact Kd.N_nil _ _ _ _ _ | exact Kd.V_nil _ _ _ _ _ | exact Kd.Q_nil _ _ _ _ _ | exact Kd.S_nil _ _ _ _ _, by first | exact Kd.R_nil _ _ _ _ _ | exact Kd.N_nil _ _ _ _ _ | exact Kd.V_nil _ _ _ _ _ | exact Kd.Q_nil _ _ _ _ _ | exact Kd.S_nil _ _ _ _ _, by first | exact Kd.R_nil _ _ _ _ _ | exact Kd.N_nil _ _ _ _ _ | exact Kd.V_nil _ _ _ _ _ | exact Kd.Q_nil _ _ _ _ _ | exact Kd.S_nil _ _ _ _ _, by repeat (first | (with_reducible first | exact HB.out | apply below_alloc | apply pw_below_drewN | apply below_drew1 | refine below_set ?_ (IsS51.ge HI177.out) | refine below_set ?_ GE173.out | refine below_set ?_ GE184.out) | exact HB.out)⟩
              · replace c27 := Bool.eq_false_iff.mpr c27
                subst c27
                have H1 : ((node_rtext.f t174 false x178002_2).bind fun bt199 => (if x185001_2.length < 8796093022208 then ((some (x185001_2 ++ [bt199.1] : List ByteArray)).bind fun y202 => (if (t178 == 1) = true then ((node_rtext.f t174 bt199.2.1 bt199.2.2).bind fun bt205 => (if x185002_2.length < 8796093022208 then (node_Take.l0 k2 l0 t181 (wrap64 (x46_2 + 1)) t174 bt205.2.1 bt205.2.2 (t178 == 1) y202 (x185002_2 ++ [bt205.1]) x185003_2) else (none))) else ((node_number4.f t174 bt199.2.1 bt199.2.2).bind fun bt211 => (if x185003_2.length < 17592186044416 then (node_Take.l0 k2 l0 t181 (wrap64 (x46_2 + 1)) t174 bt211.2.1 bt211.2.2 (t178 == 1) y202 x185002_2 (x185003_2 ++ [bt211.1])) else (none))))) else (none))) = some (r1, r2, r3, r4, r5) := by rw [if_neg (show ¬ (false = true) by decide)] at H; exact H
                clear H
                have H := H1
                clear H1
                replace H := Option.bind_eq_some_iff.mp H
                obtain ⟨⟨t199, t200, t201⟩, A400, H⟩ := H
                replace H : (if x185001_2.length < 8796093022208 then ((some (x185001_2 ++ [t199] : List ByteArray)).bind fun y202 => (if (t178 == 1) = true then ((node_rtext.f t174 t200 t201).bind fun bt205 => (if x185002_2.length < 8796093022208 then (node_Take.l0 k2 l0 t181 (wrap64 (x46_2 + 1)) t174 bt205.2.1 bt205.2.2 (t178 == 1) y202 (x185002_2 ++ [bt205.1]) x185003_2) else (none))) else ((node_number4.f t174 t200 t201).bind fun bt211 => (if x185003_2.length < 17592186044416 then (node_Take.l0 k2 l0 t181 (wrap64 (x46_2 + 1)) t174 bt211.2.1 bt211.2.2 (t178 == 1) y202 x185002_2 (x185003_2 ++ [bt211.1])) else (none))))) else (none)) = some (r1, r2, r3, r4, r5) := H
                have A40 := Aside0.mk A400
                clear A400
                by_cases c41 : x185001_2.length < 8796093022208
                · rw [if_pos c41] at H
                  have LMc41 := Aside0.mk c41
                  clear c41
                  obtain ⟨y202, hy202⟩ : ∃ y_ : List ByteArray, y_ = (x185001_2 ++ [t199]) := ⟨_, rfl⟩
                  replace H : (if (t178 == 1) = true then ((node_rtext.f t174 t200 t201).bind fun bt205 => (if x185002_2.length < 8796093022208 then (node_Take.l0 k2 l0 t181 (wrap64 (x46_2 + 1)) t174 bt205.2.1 bt205.2.2 (t178 == 1) y202 (x185002_2 ++ [bt205.1]) x185003_2) else (none))) else ((node_number4.f t174 t200 t201).bind fun bt211 => (if x185003_2.length < 17592186044416 then (node_Take.l0 k2 l0 t181 (wrap64 (x46_2 + 1)) t174 bt211.2.1 bt211.2.2 (t178 == 1) y202 x185002_2 (x185003_2 ++ [bt211.1])) else (none)))) = some (r1, r2, r3, r4, r5) := by first | (rw [hy202]; with_reducible exact H) | (have H2_ := (Option.bind_some _ _).symm.trans H; rw [hy202]; with_reducible exact H2_) | (have H2_ := (Option.bind_some _ _).symm.trans H; with_reducible exact H2_) | with_reducible exact H | (rw [hy202]; exact H) | exact H
                  have Ny202 := Aside0.mk hy202
                  clear hy202
                  by_cases c42 : (t178 == 1) = true
                  · rw [if_pos c42] at H
                    have c42b0 : (t178 == 1) = true := c42
                    (try (have c42b1 : decide (t178 = 1) = true := by simpa using c42))
                    (try (have c42b2 : (t178 == 1) = true := by simpa using c42))
                    clear c42
                    replace H := Option.bind_eq_some_iff.mp H
                    obtain ⟨⟨t205, t206, t207⟩, A430, H⟩ := H
                    replace H : (if x185002_2.length < 8796093022208 then (node_Take.l0 k2 l0 t181 (wrap64 (x46_2 + 1)) t174 t206 t207 (t178 == 1) y202 (x185002_2 ++ [t205]) x185003_2) else (none)) = some (r1, r2, r3, r4, r5) := H
                    have A43 := Aside0.mk A430
                    clear A430
                    by_cases c44 : x185002_2.length < 8796093022208
                    · rw [if_pos c44] at H
                      have LMc44 := Aside0.mk c44
                      clear c44
                      obtain ⟨y208, hy208⟩ : ∃ y_ : List ByteArray, y_ = (x185002_2 ++ [t205]) := ⟨_, rfl⟩
                      replace H : (node_Take.l0 k2 l0 t181 (wrap64 (x46_2 + 1)) t174 t206 t207 (t178 == 1) y202 y208 x185003_2) = some (r1, r2, r3, r4, r5) := by first | (rw [hy208]; with_reducible exact H) | (have H2_ := (Option.bind_some _ _).symm.trans H; rw [hy208]; with_reducible exact H2_) | (have H2_ := (Option.bind_some _ _).symm.trans H; with_reducible exact H2_) | with_reducible exact H | (rw [hy208]; exact H) | exact H
                      have Ny208 := Aside0.mk hy208
                      clear hy208
                      have H' := Aside0.mk H
                      clear H
                      obtain ⟨ASz45_0, cSz45_0, ja_, jb_, jc_, jd_, HGz45, hgz45, HSz45_0⟩ := HI177.out; clear ja_ jb_ jc_ jd_ HSz45_0
                      have hcz45_0 := cellS51_0 HGz45
                      have hcz45_1 := cellS51_1 HGz45
                      have hfz45_1 := blk_frozen HGz45 1
                      clear HGz45 hgz45
                      try go_wp2
                      have n0_ := Aside0.mk (Kd.R_drew HO_185001.out)
                      have n1_ := Aside0.mk (Kd.R_drew HO_185002.out)
                      have n2_ := Aside0.mk (Kd.R_drew HO_185003.out)
                      have n3_ := Aside0.mk (blk_drew BK173.out)
                      have n4_ := Aside0.mk (blk_drew BK184.out)
                      have n5_ := Aside0.mk (IsS51.drew HI177.out)
                      have n6_ := Aside0.mk (below_drew1 HB.out)
                      clear HO_185001
                      clear HO_185002
                      clear HO_185003
                      clear BK173
                      clear BK184
                      clear HI177
                      clear HB
                      have HO_185001 := n0_
                      have HO_185002 := n1_
                      have HO_185003 := n2_
                      have BK173 := n3_
                      have BK184 := n4_
                      have HI177 := n5_
                      have HB := n6_
                      clear n0_ n1_ n2_ n3_ n4_ n5_ n6_
                      refine start_ (n := 8) (S := fun w' => w'.cell? ⟨gb184, 0, none⟩ = some (.bool (t178 == 1)) ∧ w'.cell? ⟨gb184, 1, none⟩ = some (u185001) ∧ w'.cell? ⟨gb184, 2, none⟩ = some (u185002) ∧ w'.cell? ⟨gb184, 3, none⟩ = some (u185003)) (ds := [7]) #[false, false, false, false, false, false, false, false] (by kernel_rfl) rfl rfl ⟨(blk_cell BK184.out 0).trans rfl, (blk_cell BK184.out 1).trans rfl, (blk_cell BK184.out 2).trans rfl, (blk_cell BK184.out 3).trans rfl⟩ (fun hHeld => ?_); refine with_tabW node_Take.tab11 node_Take.bits11 (fun HT_ HW_ => ?_)
                      generalize wr.drew = w46 at HO_185001 HO_185002 HO_185003 BK173 BK184 HI177 HB hHeld ⊢
                      refine pure_ (i := 0) (N := some 52) (v := ?_) (a' := ?_) #[true, false, false, false, false, false, false, false] rfl rfl (any_of HT_.out (by kernel_rfl)) (fun _ _ _ h => h) (Or.inl ⟨by rfl, ?_⟩) ?_ ?_
                      rotate_left
                      · intro w'
                        go_simp
                        with_reducible rfl
                      rotate_left
                      · simp only [Act.put, List.setIfInBounds_toArray, List.set_cons_zero, List.set_cons_succ, i64_w, i32_w]
                        rfl
                      refine pure_ (i := 2) (N := some 54) (v := ?_) (a' := ?_) #[true, false, true, false, false, false, false, false] rfl rfl (any_of HT_.out (by kernel_rfl)) (fun _ _ _ h => h) (Or.inl ⟨by rfl, ?_⟩) ?_ ?_
                      rotate_left
                      · intro w'
                        go_simp
                        with_reducible rfl
                      rotate_left
                      · simp only [Act.put, List.setIfInBounds_toArray, List.set_cons_zero, List.set_cons_succ, i64_w, i32_w]
                        rfl
                      refine take_ (i := 1) (N := some 53) (v := ?_) (a' := ?_) #[true, true, true, false, false, false, false, false] rfl rfl (take_ofW HT_.out HW_.out (by kernel_rfl)) (fun _ _ _ h => h) (Or.inl ⟨by rfl, ?_⟩) hHeld ?_ ?_
                      rotate_left
                      · rintro w' ⟨s0, s1, s2, s3⟩
                        go_simp
                        with_reducible rfl
                      rotate_left
                      · simp only [Act.put, List.setIfInBounds_toArray, List.set_cons_zero, List.set_cons_succ, i64_w, i32_w]
                        rfl
                      refine one_ (i := 3) (N := some 55) #[true, true, true, true, false, false, false, false] rfl rfl (one_of HT_.out (by kernel_rfl)) (by decide) (fun K hK => ?_)
                      refine goes_ Try.func30 (by kernel_rfl) rfl #[.pointer (some ⟨g177, 0, none⟩)] (by rfl) rfl rfl (by (try simp only [List.map_toArray, List.map_cons, List.map_nil]); first | done | rfl | (simp only [List.length_drop, List.length_take]; rfl)) ?_
                      with_reducible refine (node_rtext.calls g177 t174 false x178002_2 t199 t200 t201 w _ ?side1 ?side2 A40.out).mono ?_
                      (case side1 => repeat (first | (with_reducible first | exact HI177.out | apply IsS51.alloc | apply IsS51.drewN | apply IsS51.drew | apply IsS51.set_1 | apply IsS51.set_2 | refine IsS51.far ?_ NB177_173.out _ | refine IsS51.far ?_ NB177_184.out _) | exact HI177.out))
                      (case side2 => repeat (first | (with_reducible first | exact HB.out | apply below_alloc | apply pw_below_drewN | apply below_drew1 | refine below_set ?_ (IsS51.ge HI177.out) | refine below_set ?_ GE173.out | refine below_set ?_ GE184.out) | exact HB.out))
                      rintro e w47 ⟨rfl, hi, hb, hk⟩
                      refine ⟨_, rfl, ?_⟩
                      have n0_ := Aside0.mk (Kd.R_mono (Kd.R_keep (IsS51.apart (show IsS51 w _ g177 t174 false x178002_2 from by repeat (first | (with_reducible first | exact HI177.out | apply IsS51.alloc | apply IsS51.drewN | apply IsS51.drew | apply IsS51.set_1 | apply IsS51.set_2 | refine IsS51.far ?_ NB177_173.out _ | refine IsS51.far ?_ NB177_184.out _) | exact HI177.out)) (by (with_reducible repeat (first | apply Kd.R_alloc | apply Kd.R_drewN | apply Kd.R_drew)); exact HO_185001.out) (by decide)) hk (fun _ h => h.2)) (fun _ h => h.1))
                      have n1_ := Aside0.mk (Kd.R_mono (Kd.R_keep (IsS51.apart (show IsS51 w _ g177 t174 false x178002_2 from by repeat (first | (with_reducible first | exact HI177.out | apply IsS51.alloc | apply IsS51.drewN | apply IsS51.drew | apply IsS51.set_1 | apply IsS51.set_2 | refine IsS51.far ?_ NB177_173.out _ | refine IsS51.far ?_ NB177_184.out _) | exact HI177.out)) (by (with_reducible repeat (first | apply Kd.R_alloc | apply Kd.R_drewN | apply Kd.R_drew)); exact HO_185002.out) (by decide)) hk (fun _ h => h.2)) (fun _ h => h.1))
                      have n2_ := Aside0.mk (Kd.R_mono (Kd.R_keep (IsS51.apart (show IsS51 w _ g177 t174 false x178002_2 from by repeat (first | (with_reducible first | exact HI177.out | apply IsS51.alloc | apply IsS51.drewN | apply IsS51.drew | apply IsS51.set_1 | apply IsS51.set_2 | refine IsS51.far ?_ NB177_173.out _ | refine IsS51.far ?_ NB177_184.out _) | exact HI177.out)) (by (with_reducible repeat (first | apply Kd.R_alloc | apply Kd.R_drewN | apply Kd.R_drew)); exact HO_185003.out) (by decide)) hk (fun _ h => h.2)) (fun _ h => h.1))
                      have n3_ := Aside0.mk (KeepBut.blk hk (g' := gb173) (o := .cells #[.bool false, .slice none 0 0, .slice none 0 0, .slice none 0 0] 25 (0, 0)) (by (with_reducible repeat (first | refine blk_drewN ?_ _ | refine blk_drew ?_ | refine blk_alloc ?_ _)); exact BK173.out) NB173_177.out (by simp))
                      have n4_ := Aside0.mk (KeepBut.blk hk (g' := gb184) (o := .cells #[.bool (t178 == 1), u185001, u185002, u185003] 25 (0, 0)) (by (with_reducible repeat (first | refine blk_drewN ?_ _ | refine blk_drew ?_ | refine blk_alloc ?_ _)); exact BK184.out) NB184_177.out (by simp))
                      have n5_ := Aside0.mk (hb)
                      have n6_ := Aside0.mk (hi)
                      clear HO_185001
                      clear HO_185002
                      clear HO_185003
                      clear BK173
                      clear BK184
                      clear HB
                      clear HI177
                      have HO_185001 := n0_
                      have HO_185002 := n1_
                      have HO_185003 := n2_
                      have BK173 := n3_
                      have BK184 := n4_
                      have HB := n5_
                      have HI177 := n6_
                      clear n0_ n1_ n2_ n3_ n4_ n5_ n6_
                      (try clear hb)
                      (try clear hb2)
                      (try clear hk)
                      (try clear hi)
                      refine hK.out _ _ ⟨(blk_cell BK184.out 0).trans rfl, (blk_cell BK184.out 1).trans rfl, (blk_cell BK184.out 2).trans rfl, (blk_cell BK184.out 3).trans rfl⟩ (fun hHeld => ?_)
                      clear hK K
                      refine norm_ (a' := ?_) ?_ ?_
                      rotate_left
                      · show Act.put _ (some 55) _ = _
                        simp only [Act.put, List.setIfInBounds_toArray, List.set_cons_zero, List.set_cons_succ, i64_w, i32_w]
                        rfl
                      refine one_ (i := 4) (N := some 56) #[true, true, true, true, true, false, false, false] rfl rfl (one_of HT_.out (by kernel_rfl)) (by decide) (fun K hK => ?_)
                      refine value_ (w1 := ?_) (v := ?_) (by rfl) rfl ?_ ?_
                      rotate_left 2
                      · go_simp
                        constructor
                        · rfl
                        · rfl
                      refine hK.out _ _ ⟨(blk_cell (blk_alloc BK184.out _) 0).trans rfl, (blk_cell (blk_alloc BK184.out _) 1).trans rfl, (blk_cell (blk_alloc BK184.out _) 2).trans rfl, (blk_cell (blk_alloc BK184.out _) 3).trans rfl⟩ (fun hHeld => ?_)
                      clear hK K
                      refine norm_ (a' := ?_) ?_ ?_
                      rotate_left
                      · show Act.put _ (some 56) _ = _
                        simp only [Act.put, List.setIfInBounds_toArray, List.set_cons_zero, List.set_cons_succ, i64_w, i32_w]
                        rfl
                      refine one_ (i := 5) (N := some 57) #[true, true, true, true, true, true, false, false] rfl rfl (one_of HT_.out (by kernel_rfl)) (by decide) (fun K hK => ?_)
                      refine Kd.R_append_step Kd.string (w0 := w) w.heap.size (by rfl) (.tmp 53) (.tmp 56) 22 9 (.string ⟨#[]⟩) 16 rfl Try.underlying22 info9 rfl (by decide) (by omega) u185001 x185001_2 t199 [.string t199] (fun k_ => some k_ ≠ (u185002 : Value).ownBlock) (fun _ => False) rfl rfl ?aP (fun _ hk => hk.elim) ?aF ?aO ?aB ?aS ?aL ?_
                      (case aP => exact rfl)
                      (case aB => exact (by repeat (first | (with_reducible first | exact HB.out | apply below_alloc | apply pw_below_drewN | apply below_drew1 | refine below_set ?_ (IsS51.ge HI177.out) | refine below_set ?_ GE173.out | refine below_set ?_ GE184.out) | exact HB.out)))
                      (case aF => exact (fun k_ hk => Kd.fresh' (Kd.R_lt (by (with_reducible repeat (first | apply Kd.R_alloc | apply Kd.R_drewN | apply Kd.R_drew)); exact HO_185002.out)) k_ hk))
                      (case aO => exact (by (with_reducible repeat (first | apply Kd.R_alloc | apply Kd.R_drewN | apply Kd.R_drew)); exact HO_185001.out))
                      (case aS => exact (below_size (by repeat (first | (with_reducible first | exact HB.out | apply below_alloc | apply pw_below_drewN | apply below_drew1 | refine below_set ?_ (IsS51.ge HI177.out) | refine below_set ?_ GE173.out | refine below_set ?_ GE184.out) | exact HB.out))))
                      (case aL => have := LMc41.out; omega)
                      intro v203 w48 ho hb hg hat
                      rw [← Ny202.out] at ho
                      have n0_ := Aside0.mk (Kd.R_after (ok := (fun _ => True)) (by (with_reducible repeat (first | apply Kd.R_alloc | apply Kd.R_drewN | apply Kd.R_drew)); exact Kd.R_mono HO_185002.out (fun _ hk => ⟨trivial, hk⟩)) hg hat)
                      have n1_ := Aside0.mk (Kd.R_over' (by (with_reducible repeat (first | apply Kd.R_alloc | apply Kd.R_drewN | apply Kd.R_drew)); exact HO_185003.out) (Kd.R_typed (by (with_reducible repeat (first | apply Kd.R_alloc | apply Kd.R_drewN | apply Kd.R_drew)); exact HO_185001.out)) (by decide) hg)
                      have n2_ := Aside0.mk (blk_grown (g := gb173) (o := .cells #[.bool false, .slice none 0 0, .slice none 0 0, .slice none 0 0] 25 (0, 0)) (by (with_reducible repeat (first | refine blk_drewN ?_ _ | refine blk_drew ?_ | refine blk_alloc ?_ _)); exact BK173.out) hg (Kd.R_ne HO_185001.out BK173.out (by decide)))
                      have n3_ := Aside0.mk (blk_grown (g := gb184) (o := .cells #[.bool (t178 == 1), u185001, u185002, u185003] 25 (0, 0)) (by (with_reducible repeat (first | refine blk_drewN ?_ _ | refine blk_drew ?_ | refine blk_alloc ?_ _)); exact BK184.out) hg (Kd.R_ne HO_185001.out BK184.out (by decide)))
                      have n4_ := Aside0.mk (IsS51.grown (by repeat (first | (with_reducible first | exact HI177.out | apply IsS51.alloc | apply IsS51.drewN | apply IsS51.drew | apply IsS51.set_1 | apply IsS51.set_2 | refine IsS51.far ?_ NB177_173.out _ | refine IsS51.far ?_ NB177_184.out _) | exact HI177.out)) hg (IsS51.own_ne HI177.out HO_185001.out (by decide)))
                      have n5_ := Aside0.mk (hb)
                      have n6_ := Aside0.mk (ho)
                      clear HO_185002
                      clear HO_185003
                      clear BK173
                      clear BK184
                      clear HI177
                      clear HB
                      clear HO_185001
                      have HO_185002 := n0_
                      have HO_185003 := n1_
                      have BK173 := n2_
                      have BK184 := n3_
                      have HI177 := n4_
                      have HB := n5_
                      have HO204 := n6_
                      clear n0_ n1_ n2_ n3_ n4_ n5_ n6_
                      clear ho hb hg hat
                      obtain ⟨Ao49, co49, eo49⟩ := Kd.R_slice HO204.out
                      (first | subst eo49 | (injection eo49 with f1_ f2_ f3_; have f4_ := f1_.symm; have f5_ := f3_.symm; clear f1_ f2_ f3_; subst f4_; subst f5_))
                      refine hK.out _ _ ⟨(blk_cell BK184.out 0).trans rfl, (blk_cell BK184.out 1).trans rfl, (blk_cell BK184.out 2).trans rfl, (blk_cell BK184.out 3).trans rfl⟩ (fun hHeld => ?_)
                      clear hK K
                      refine norm_ (a' := ?_) ?_ ?_
                      rotate_left
                      · show Act.put _ (some 57) _ = _
                        simp only [Act.put, List.setIfInBounds_toArray, List.set_cons_zero, List.set_cons_succ, i64_w, i32_w]
                        rfl
                      refine pure_ (i := 6) (N := some 58) (v := ?_) (a' := ?_) #[true, true, true, true, true, true, true, false] rfl rfl (any_of HT_.out (by kernel_rfl)) (fun _ _ _ h => h) (Or.inl ⟨by rfl, ?_⟩) ?_ ?_
                      rotate_left
                      · intro w'
                        go_simp
                        with_reducible rfl
                      rotate_left
                      · simp only [Act.put, List.setIfInBounds_toArray, List.set_cons_zero, List.set_cons_succ, i64_w, i32_w]
                        rfl
                      refine last_ (i := 7) (N := none) #[true, true, true, true, true, true, true, true] rfl rfl (one_of HT_.out (by kernel_rfl)) (by decide) (fun K hK => ?_)
                      have hs50 : w48.cell? ⟨gb184, 1, none⟩ = some (u185001) := (blk_cell BK184.out 1).trans rfl
                      have hfs50 := blk_frozen BK184.out 1
                      have hns50_0 := NB173_184.out
                      have hms50_0 := NB184_173.out
                      refine skip_ (w1 := ?_) (by rfl) rfl ?_ ?_
                      rotate_left
                      · go_simp
                        rfl
                      refine hK.out _ _ ?_
                      clear hK K
                      refine done_ (done_of HT_.out (by kernel_rfl)) ?_
                      have hnb51 := NB184_173.out
                      have hnc51 := NB173_184.out
                      have hnb52 := NB184_177.out
                      have hnc52 := NB177_184.out
                      have hcz53_0 : w48.cell? ⟨gb184, 0, none⟩ = some (.bool (t178 == 1)) := (blk_cell BK184.out 0).trans rfl
                      have hcz53_1 : w48.cell? ⟨gb184, 1, none⟩ = some (u185001) := (blk_cell BK184.out 1).trans rfl
                      have hcz53_2 : w48.cell? ⟨gb184, 2, none⟩ = some (u185002) := (blk_cell BK184.out 2).trans rfl
                      have hcz53_3 : w48.cell? ⟨gb184, 3, none⟩ = some (u185003) := (blk_cell BK184.out 3).trans rfl
                      have hfz53_0 := blk_frozen BK184.out 0
                      have hfz53_1 := blk_frozen BK184.out 1
                      have hfz53_2 := blk_frozen BK184.out 2
                      have hfz53_3 := blk_frozen BK184.out 3
                      try go_wp2
                      have n0_ : Aside0 (Kd.R Kd.string 9 (w48.setCell ⟨gb184, 1, none⟩ (.slice Ao49 y202.length co49)) w.heap.size (fun k_ => some k_ ≠ (.slice Ao49 y202.length co49 : Value).ownBlock) u185002 x185002_2) := ⟨by (with_reducible repeat (first | apply Kd.R_alloc | apply Kd.R_drewN | apply Kd.R_drew)); exact Kd.R_mono (Kd.R_far (p := ⟨gb184, 1, none⟩) (Kd.R_types HO_185002.out BK184.out (by decide)) (fun _ hk => hk.2) (.slice Ao49 y202.length co49)) (fun _ hk => hk.1.2)⟩
                      have n1_ : Aside0 (Kd.R (Kd.int .i64) 3 (w48.setCell ⟨gb184, 1, none⟩ (.slice Ao49 y202.length co49)) w.heap.size (fun _ => True) u185003 x185003_2) := ⟨by (with_reducible repeat (first | apply Kd.R_alloc | apply Kd.R_drewN | apply Kd.R_drew)); exact Kd.R_mono (Kd.R_far (p := ⟨gb184, 1, none⟩) (Kd.R_types HO_185003.out BK184.out (by decide)) (fun _ hk => hk.2) (.slice Ao49 y202.length co49)) (fun _ hk => trivial)⟩
                      have n2_ : Aside0 (Kd.R Kd.string 9 (w48.setCell ⟨gb184, 1, none⟩ (.slice Ao49 y202.length co49)) w.heap.size (fun k_ => some k_ ≠ (u185002 : Value).ownBlock) (.slice Ao49 y202.length co49) y202) := ⟨by (with_reducible repeat (first | apply Kd.R_alloc | apply Kd.R_drewN | apply Kd.R_drew)); exact Kd.R_mono (Kd.R_far (p := ⟨gb184, 1, none⟩) (Kd.R_types HO204.out BK184.out (by decide)) (fun _ hk => hk.2) (.slice Ao49 y202.length co49)) (fun _ hk => hk.1)⟩
                      have n3_ : Aside0 ((w48.setCell ⟨gb184, 1, none⟩ (.slice Ao49 y202.length co49)).heap[gb173]? = some (.cells #[.bool false, .slice none 0 0, .slice none 0 0, .slice none 0 0] 25 (0, 0))) := ⟨by (with_reducible repeat (first | refine blk_drewN ?_ _ | refine blk_drew ?_ | refine blk_alloc ?_ _)); refine blk_far ?_ NB173_184.out _; (with_reducible repeat (first | refine blk_drewN ?_ _ | refine blk_drew ?_ | refine blk_alloc ?_ _)); exact BK173.out⟩
                      have n4_ : Aside0 ((w48.setCell ⟨gb184, 1, none⟩ (.slice Ao49 y202.length co49)).heap[gb184]? = some (.cells #[.bool (t178 == 1), .slice Ao49 y202.length co49, u185002, u185003] 25 (0, 0))) := ⟨by (with_reducible repeat (first | refine blk_drewN ?_ _ | refine blk_drew ?_ | refine blk_alloc ?_ _)); refine blk_put (cs := #[.bool (t178 == 1), u185001, u185002, u185003]) ?_ 1 _ rfl; (with_reducible repeat (first | refine blk_drewN ?_ _ | refine blk_drew ?_ | refine blk_alloc ?_ _)); exact BK184.out⟩
                      have n5_ : Aside0 (IsS51 w (w48.setCell ⟨gb184, 1, none⟩ (.slice Ao49 y202.length co49)) g177 t174 t200 t201) := ⟨by repeat (first | (with_reducible first | exact HI177.out | apply IsS51.alloc | apply IsS51.drewN | apply IsS51.drew | apply IsS51.set_1 | apply IsS51.set_2 | refine IsS51.far ?_ NB177_173.out _ | refine IsS51.far ?_ NB177_184.out _) | exact HI177.out)⟩
                      have n6_ : Aside0 (Below w.heap.size w (w48.setCell ⟨gb184, 1, none⟩ (.slice Ao49 y202.length co49))) := ⟨by repeat (first | (with_reducible first | exact HB.out | apply below_alloc | apply pw_below_drewN | apply below_drew1 | refine below_set ?_ (IsS51.ge HI177.out) | refine below_set ?_ GE173.out | refine below_set ?_ GE184.out) | exact HB.out)⟩
                      (try clear HO_185002)
                      (try clear HO_185003)
                      (try clear HO204)
                      (try clear BK173)
                      (try clear BK184)
                      (try clear HI177)
                      (try clear HB)
                      generalize (w48.setCell ⟨gb184, 1, none⟩ (.slice Ao49 y202.length co49)) = w54 at n0_ n1_ n2_ n3_ n4_ n5_ n6_ ⊢
                      have HO_185002 := n0_
                      have HO_185003 := n1_
                      have HO204 := n2_
                      have BK173 := n3_
                      have BK184 := n4_
                      have HI177 := n5_
                      have HB := n6_
                      clear n0_ n1_ n2_ n3_ n4_ n5_ n6_
                      have n0_ := Aside0.mk (Kd.R_drew HO_185002.out)
                      have n1_ := Aside0.mk (Kd.R_drew HO_185003.out)
                      have n2_ := Aside0.mk (Kd.R_drew HO204.out)
                      have n3_ := Aside0.mk (blk_drew BK173.out)
                      have n4_ := Aside0.mk (blk_drew BK184.out)
                      have n5_ := Aside0.mk (IsS51.drew HI177.out)
                      have n6_ := Aside0.mk (below_drew1 HB.out)
                      clear HO_185002
                      clear HO_185003
                      clear HO204
                      clear BK173
                      clear BK184
                      clear HI177
                      clear HB
                      have HO_185002 := n0_
                      have HO_185003 := n1_
                      have HO204 := n2_
                      have BK173 := n3_
                      have BK184 := n4_
                      have HI177 := n5_
                      have HB := n6_
                      clear n0_ n1_ n2_ n3_ n4_ n5_ n6_
                      refine start_ (n := 8) (S := fun w' => w'.cell? ⟨gb184, 0, none⟩ = some (.bool (t178 == 1)) ∧ w'.cell? ⟨gb184, 1, none⟩ = some (.slice Ao49 y202.length co49) ∧ w'.cell? ⟨gb184, 2, none⟩ = some (u185002) ∧ w'.cell? ⟨gb184, 3, none⟩ = some (u185003)) (ds := [7]) #[false, false, false, false, false, false, false, false] (by kernel_rfl) rfl rfl ⟨(blk_cell BK184.out 0).trans rfl, (blk_cell BK184.out 1).trans rfl, (blk_cell BK184.out 2).trans rfl, (blk_cell BK184.out 3).trans rfl⟩ (fun hHeld => ?_); refine with_tabW node_Take.tab13 node_Take.bits13 (fun HT_ HW_ => ?_)
                      generalize w54.drew = w55 at HO_185002 HO_185003 HO204 BK173 BK184 HI177 HB hHeld ⊢
                      refine pure_ (i := 0) (N := some 61) (v := ?_) (a' := ?_) #[true, false, false, false, false, false, false, false] rfl rfl (any_of HT_.out (by kernel_rfl)) (fun _ _ _ h => h) (Or.inl ⟨by rfl, ?_⟩) ?_ ?_
                      rotate_left
                      · intro w'
                        go_simp
                        with_reducible rfl
                      rotate_left
                      · simp only [Act.put, List.setIfInBounds_toArray, List.set_cons_zero, List.set_cons_succ, i64_w, i32_w]
                        rfl
                      refine pure_ (i := 2) (N := some 63) (v := ?_) (a' := ?_) #[true, false, true, false, false, false, false, false] rfl rfl (any_of HT_.out (by kernel_rfl)) (fun _ _ _ h => h) (Or.inl ⟨by rfl, ?_⟩) ?_ ?_
                      rotate_left
                      · intro w'
                        go_simp
                        with_reducible rfl
                      rotate_left
                      · simp only [Act.put, List.setIfInBounds_toArray, List.set_cons_zero, List.set_cons_succ, i64_w, i32_w]
                        rfl
                      refine take_ (i := 1) (N := some 62) (v := ?_) (a' := ?_) #[true, true, true, false, false, false, false, false] rfl rfl (take_ofW HT_.out HW_.out (by kernel_rfl)) (fun _ _ _ h => h) (Or.inl ⟨by rfl, ?_⟩) hHeld ?_ ?_
                      rotate_left
                      · rintro w' ⟨s0, s1, s2, s3⟩
                        go_simp
                        with_reducible rfl
                      rotate_left
                      · simp only [Act.put, List.setIfInBounds_toArray, List.set_cons_zero, List.set_cons_succ, i64_w, i32_w]
                        rfl
                      refine one_ (i := 3) (N := some 64) #[true, true, true, true, false, false, false, false] rfl rfl (one_of HT_.out (by kernel_rfl)) (by decide) (fun K hK => ?_)
                      refine goes_ Try.func30 (by kernel_rfl) rfl #[.pointer (some ⟨g177, 0, none⟩)] (by rfl) rfl rfl (by (try simp only [List.map_toArray, List.map_cons, List.map_nil]); first | done | rfl | (simp only [List.length_drop, List.length_take]; rfl)) ?_
                      with_reducible refine (node_rtext.calls g177 t174 t200 t201 t205 t206 t207 w _ ?side1 ?side2 A43.out).mono ?_
                      (case side1 => repeat (first | (with_reducible first | exact HI177.out | apply IsS51.alloc | apply IsS51.drewN | apply IsS51.drew | apply IsS51.set_1 | apply IsS51.set_2 | refine IsS51.far ?_ NB177_173.out _ | refine IsS51.far ?_ NB177_184.out _) | exact HI177.out))
                      (case side2 => repeat (first | (with_reducible first | exact HB.out | apply below_alloc | apply pw_below_drewN | apply below_drew1 | refine below_set ?_ (IsS51.ge HI177.out) | refine below_set ?_ GE173.out | refine below_set ?_ GE184.out) | exact HB.out))
                      rintro e w56 ⟨rfl, hi, hb, hk⟩
                      refine ⟨_, rfl, ?_⟩
                      have n0_ := Aside0.mk (Kd.R_mono (Kd.R_keep (IsS51.apart (show IsS51 w _ g177 t174 t200 t201 from by repeat (first | (with_reducible first | exact HI177.out | apply IsS51.alloc | apply IsS51.drewN | apply IsS51.drew | apply IsS51.set_1 | apply IsS51.set_2 | refine IsS51.far ?_ NB177_173.out _ | refine IsS51.far ?_ NB177_184.out _) | exact HI177.out)) (by (with_reducible repeat (first | apply Kd.R_alloc | apply Kd.R_drewN | apply Kd.R_drew)); exact HO_185002.out) (by decide)) hk (fun _ h => h.2)) (fun _ h => h.1))
                      have n1_ := Aside0.mk (Kd.R_mono (Kd.R_keep (IsS51.apart (show IsS51 w _ g177 t174 t200 t201 from by repeat (first | (with_reducible first | exact HI177.out | apply IsS51.alloc | apply IsS51.drewN | apply IsS51.drew | apply IsS51.set_1 | apply IsS51.set_2 | refine IsS51.far ?_ NB177_173.out _ | refine IsS51.far ?_ NB177_184.out _) | exact HI177.out)) (by (with_reducible repeat (first | apply Kd.R_alloc | apply Kd.R_drewN | apply Kd.R_drew)); exact HO_185003.out) (by decide)) hk (fun _ h => h.2)) (fun _ h => h.1))
                      have n2_ := Aside0.mk (KeepBut.blk hk (g' := gb173) (o := .cells #[.bool false, .slice none 0 0, .slice none 0 0, .slice none 0 0] 25 (0, 0)) (by (with_reducible repeat (first | refine blk_drewN ?_ _ | refine blk_drew ?_ | refine blk_alloc ?_ _)); exact BK173.out) NB173_177.out (by simp))
                      have n3_ := Aside0.mk (KeepBut.blk hk (g' := gb184) (o := .cells #[.bool (t178 == 1), .slice Ao49 y202.length co49, u185002, u185003] 25 (0, 0)) (by (with_reducible repeat (first | refine blk_drewN ?_ _ | refine blk_drew ?_ | refine blk_alloc ?_ _)); exact BK184.out) NB184_177.out (by simp))
                      have n4_ := Aside0.mk (Kd.R_mono (Kd.R_keep (IsS51.apart (show IsS51 w _ g177 t174 t200 t201 from by repeat (first | (with_reducible first | exact HI177.out | apply IsS51.alloc | apply IsS51.drewN | apply IsS51.drew | apply IsS51.set_1 | apply IsS51.set_2 | refine IsS51.far ?_ NB177_173.out _ | refine IsS51.far ?_ NB177_184.out _) | exact HI177.out)) (by (with_reducible repeat (first | apply Kd.R_alloc | apply Kd.R_drewN | apply Kd.R_drew)); exact HO204.out) (by decide)) hk (fun _ h => h.2)) (fun _ h => h.1))
                      have n5_ := Aside0.mk (hb)
                      have n6_ := Aside0.mk (hi)
                      clear HO_185002
                      clear HO_185003
                      clear BK173
                      clear BK184
                      clear HO204
                      clear HB
                      clear HI177
                      have HO_185002 := n0_
                      have HO_185003 := n1_
                      have BK173 := n2_
                      have BK184 := n3_
                      have HO204 := n4_
                      have HB := n5_
                      have HI177 := n6_
                      clear n0_ n1_ n2_ n3_ n4_ n5_ n6_
                      (try clear hb)
                      (try clear hb2)
                      (try clear hk)
                      (try clear hi)
                      refine hK.out _ _ ⟨(blk_cell BK184.out 0).trans rfl, (blk_cell BK184.out 1).trans rfl, (blk_cell BK184.out 2).trans rfl, (blk_cell BK184.out 3).trans rfl⟩ (fun hHeld => ?_)
                      clear hK K
                      refine norm_ (a' := ?_) ?_ ?_
                      rotate_left
                      · show Act.put _ (some 64) _ = _
                        simp only [Act.put, List.setIfInBounds_toArray, List.set_cons_zero, List.set_cons_succ, i64_w, i32_w]
                        rfl
                      refine one_ (i := 4) (N := some 65) #[true, true, true, true, true, false, false, false] rfl rfl (one_of HT_.out (by kernel_rfl)) (by decide) (fun K hK => ?_)
                      refine value_ (w1 := ?_) (v := ?_) (by rfl) rfl ?_ ?_
                      rotate_left 2
                      · go_simp
                        constructor
                        · rfl
                        · rfl
                      refine hK.out _ _ ⟨(blk_cell (blk_alloc BK184.out _) 0).trans rfl, (blk_cell (blk_alloc BK184.out _) 1).trans rfl, (blk_cell (blk_alloc BK184.out _) 2).trans rfl, (blk_cell (blk_alloc BK184.out _) 3).trans rfl⟩ (fun hHeld => ?_)
                      clear hK K
                      refine norm_ (a' := ?_) ?_ ?_
                      rotate_left
                      · show Act.put _ (some 65) _ = _
                        simp only [Act.put, List.setIfInBounds_toArray, List.set_cons_zero, List.set_cons_succ, i64_w, i32_w]
                        rfl
                      refine one_ (i := 5) (N := some 66) #[true, true, true, true, true, true, false, false] rfl rfl (one_of HT_.out (by kernel_rfl)) (by decide) (fun K hK => ?_)
                      refine Kd.R_append_step Kd.string (w0 := w) w.heap.size (by rfl) (.tmp 62) (.tmp 65) 22 9 (.string ⟨#[]⟩) 16 rfl Try.underlying22 info9 rfl (by decide) (by omega) u185002 x185002_2 t205 [.string t205] (fun k_ => some k_ ≠ (.slice Ao49 y202.length co49 : Value).ownBlock) (fun _ => False) rfl rfl ?aP (fun _ hk => hk.elim) ?aF ?aO ?aB ?aS ?aL ?_
                      (case aP => exact rfl)
                      (case aB => exact (by repeat (first | (with_reducible first | exact HB.out | apply below_alloc | apply pw_below_drewN | apply below_drew1 | refine below_set ?_ (IsS51.ge HI177.out) | refine below_set ?_ GE173.out | refine below_set ?_ GE184.out) | exact HB.out)))
                      (case aF => exact (fun k_ hk => Kd.fresh' (Kd.R_lt (by (with_reducible repeat (first | apply Kd.R_alloc | apply Kd.R_drewN | apply Kd.R_drew)); exact HO204.out)) k_ hk))
                      (case aO => exact (by (with_reducible repeat (first | apply Kd.R_alloc | apply Kd.R_drewN | apply Kd.R_drew)); exact HO_185002.out))
                      (case aS => exact (below_size (by repeat (first | (with_reducible first | exact HB.out | apply below_alloc | apply pw_below_drewN | apply below_drew1 | refine below_set ?_ (IsS51.ge HI177.out) | refine below_set ?_ GE173.out | refine below_set ?_ GE184.out) | exact HB.out))))
                      (case aL => have := LMc44.out; omega)
                      intro v209 w57 ho hb hg hat
                      rw [← Ny208.out] at ho
                      have n0_ := Aside0.mk (Kd.R_over' (by (with_reducible repeat (first | apply Kd.R_alloc | apply Kd.R_drewN | apply Kd.R_drew)); exact HO_185003.out) (Kd.R_typed (by (with_reducible repeat (first | apply Kd.R_alloc | apply Kd.R_drewN | apply Kd.R_drew)); exact HO_185002.out)) (by decide) hg)
                      have n1_ := Aside0.mk (blk_grown (g := gb173) (o := .cells #[.bool false, .slice none 0 0, .slice none 0 0, .slice none 0 0] 25 (0, 0)) (by (with_reducible repeat (first | refine blk_drewN ?_ _ | refine blk_drew ?_ | refine blk_alloc ?_ _)); exact BK173.out) hg (Kd.R_ne HO_185002.out BK173.out (by decide)))
                      have n2_ := Aside0.mk (blk_grown (g := gb184) (o := .cells #[.bool (t178 == 1), .slice Ao49 y202.length co49, u185002, u185003] 25 (0, 0)) (by (with_reducible repeat (first | refine blk_drewN ?_ _ | refine blk_drew ?_ | refine blk_alloc ?_ _)); exact BK184.out) hg (Kd.R_ne HO_185002.out BK184.out (by decide)))
                      have n3_ := Aside0.mk (IsS51.grown (by repeat (first | (with_reducible first | exact HI177.out | apply IsS51.alloc | apply IsS51.drewN | apply IsS51.drew | apply IsS51.set_1 | apply IsS51.set_2 | refine IsS51.far ?_ NB177_173.out _ | refine IsS51.far ?_ NB177_184.out _) | exact HI177.out)) hg (IsS51.own_ne HI177.out HO_185002.out (by decide)))
                      have n4_ := Aside0.mk (Kd.R_after (ok := (fun _ => True)) (by (with_reducible repeat (first | apply Kd.R_alloc | apply Kd.R_drewN | apply Kd.R_drew)); exact Kd.R_mono HO204.out (fun _ hk => ⟨trivial, hk⟩)) hg hat)
                      have n5_ := Aside0.mk (hb)
                      have n6_ := Aside0.mk (ho)
                      clear HO_185003
                      clear BK173
                      clear BK184
                      clear HI177
                      clear HO204
                      clear HB
                      clear HO_185002
                      have HO_185003 := n0_
                      have BK173 := n1_
                      have BK184 := n2_
                      have HI177 := n3_
                      have HO204 := n4_
                      have HB := n5_
                      have HO210 := n6_
                      clear n0_ n1_ n2_ n3_ n4_ n5_ n6_
                      clear ho hb hg hat
                      obtain ⟨Ao58, co58, eo58⟩ := Kd.R_slice HO210.out
                      (first | subst eo58 | (injection eo58 with f1_ f2_ f3_; have f4_ := f1_.symm; have f5_ := f3_.symm; clear f1_ f2_ f3_; subst f4_; subst f5_))
                      refine hK.out _ _ ⟨(blk_cell BK184.out 0).trans rfl, (blk_cell BK184.out 1).trans rfl, (blk_cell BK184.out 2).trans rfl, (blk_cell BK184.out 3).trans rfl⟩ (fun hHeld => ?_)
                      clear hK K
                      refine norm_ (a' := ?_) ?_ ?_
                      rotate_left
                      · show Act.put _ (some 66) _ = _
                        simp only [Act.put, List.setIfInBounds_toArray, List.set_cons_zero, List.set_cons_succ, i64_w, i32_w]
                        rfl
                      refine pure_ (i := 6) (N := some 67) (v := ?_) (a' := ?_) #[true, true, true, true, true, true, true, false] rfl rfl (any_of HT_.out (by kernel_rfl)) (fun _ _ _ h => h) (Or.inl ⟨by rfl, ?_⟩) ?_ ?_
                      rotate_left
                      · intro w'
                        go_simp
                        with_reducible rfl
                      rotate_left
                      · simp only [Act.put, List.setIfInBounds_toArray, List.set_cons_zero, List.set_cons_succ, i64_w, i32_w]
                        rfl
                      refine last_ (i := 7) (N := none) #[true, true, true, true, true, true, true, true] rfl rfl (one_of HT_.out (by kernel_rfl)) (by decide) (fun K hK => ?_)
                      have hs59 : w57.cell? ⟨gb184, 2, none⟩ = some (u185002) := (blk_cell BK184.out 2).trans rfl
                      have hfs59 := blk_frozen BK184.out 2
                      have hns59_0 := NB173_184.out
                      have hms59_0 := NB184_173.out
                      refine skip_ (w1 := ?_) (by rfl) rfl ?_ ?_
                      rotate_left
                      · go_simp
                        rfl
                      refine hK.out _ _ ?_
                      clear hK K
                      refine done_ (done_of HT_.out (by kernel_rfl)) ?_
                      try go_wp2
                      go_roundg k2
                      case measure => have := HJ5.out; have := HK2.out; omega
                      case rel => exact ⟨(wrap64 (x46_2 + 1)), (t206), (t207), (y202), (y208), (x185003_2), (.slice Ao49 y202.length co49), (.slice Ao58 y208.length co58), (u185003), (by first | rfl | (simp; done) | (simp [*]; done)), H', ⟨by have := HJ5.out; have := HK2.out; omega⟩, ⟨by (with_reducible repeat (first | apply Kd.R_alloc | apply Kd.R_drewN | apply Kd.R_drew)); exact Kd.R_mono (Kd.R_far (p := ⟨gb184, 2, none⟩) (Kd.R_types HO204.out BK184.out (by decide)) (fun _ hk => hk.2) (.slice Ao58 y208.length co58)) (fun _ hk => hk.1.2)⟩, ⟨by (with_reducible repeat (first | apply Kd.R_alloc | apply Kd.R_drewN | apply Kd.R_drew)); exact Kd.R_mono (Kd.R_far (p := ⟨gb184, 2, none⟩) (Kd.R_types HO210.out BK184.out (by decide)) (fun _ hk => hk.2) (.slice Ao58 y208.length co58)) (fun _ hk => hk.1)⟩, ⟨by (with_reducible repeat (first | apply Kd.R_alloc | apply Kd.R_drewN | apply Kd.R_drew)); exact Kd.R_mono (Kd.R_far (p := ⟨gb184, 2, none⟩) (Kd.R_types HO_185003.out BK184.out (by decide)) (fun _ hk => hk.2) (.slice Ao58 y208.length co58)) (fun _ hk => trivial)⟩, ⟨by (with_reducible repeat (first | refine blk_drewN ?_ _ | refine blk_drew ?_ | refine blk_alloc ?_ _)); refine blk_far ?_ NB173_184.out _; (with_reducible repeat (first | refine blk_drewN ?_ _ | refine blk_drew ?_ | refine blk_alloc ?_ _)); exact BK173.out⟩, ⟨by (with_reducible repeat (first | refine blk_drewN ?_ _ | refine blk_drew ?_ | refine blk_alloc ?_ _)); refine blk_put (cs := #[.bool (t178 == 1), .slice Ao49 y202.length co49, u185002, u185003]) ?_ 2 _ rfl; (with_reducible repeat (first | refine blk_drewN ?_ _ | refine blk_drew ?_ | refine blk_alloc ?_ _)); exact BK184.out⟩, ⟨by repeat (first | (with_reducible first | exact HI177.out | apply IsS51.alloc | apply IsS51.drewN | apply IsS51.drew | apply IsS51.set_1 | apply IsS51.set_2 | refine IsS51.far ?_ NB177_173.out _ | refine IsS51.far ?_ NB177_184.out _) | exact HI177.out)⟩, ⟨by repeat (first | (with_reducible first | exact HB.out | apply below_alloc | apply pw_below_drewN | apply below_drew1 | refine below_set ?_ (IsS51.ge HI177.out) | refine below_set ?_ GE173.out | refine below_set ?_ GE184.out) | exact HB.out)⟩⟩
                    · rw [if_neg c44] at H
                      exact absurd H (by simp)
                  · rw [if_neg c42] at H
                    have c42b0 : (t178 == 1) = false := by simpa using c42
                    (try (have c42b1 : decide (t178 = 1) = false := by simpa using c42))
                    (try (have c42b2 : (t178 == 1) = false := by simpa using c42))
                    (try (have c42b3 : ¬ (t178 = 1) := by simpa using c42))
                    clear c42
                    replace H := Option.bind_eq_some_iff.mp H
                    obtain ⟨⟨t211, t212, t213⟩, A600, H⟩ := H
                    replace H : (if x185003_2.length < 17592186044416 then (node_Take.l0 k2 l0 t181 (wrap64 (x46_2 + 1)) t174 t212 t213 (t178 == 1) y202 x185002_2 (x185003_2 ++ [t211])) else (none)) = some (r1, r2, r3, r4, r5) := H
                    have A60 := Aside0.mk A600
                    clear A600
                    by_cases c61 : x185003_2.length < 17592186044416
                    · rw [if_pos c61] at H
                      have LMc61 := Aside0.mk c61
                      clear c61
                      obtain ⟨y214, hy214⟩ : ∃ y_ : List Int, y_ = (x185003_2 ++ [t211]) := ⟨_, rfl⟩
                      replace H : (node_Take.l0 k2 l0 t181 (wrap64 (x46_2 + 1)) t174 t212 t213 (t178 == 1) y202 x185002_2 y214) = some (r1, r2, r3, r4, r5) := by first | (rw [hy214]; with_reducible exact H) | (have H2_ := (Option.bind_some _ _).symm.trans H; rw [hy214]; with_reducible exact H2_) | (have H2_ := (Option.bind_some _ _).symm.trans H; with_reducible exact H2_) | with_reducible exact H | (rw [hy214]; exact H) | exact H
                      have Ny214 := Aside0.mk hy214
                      clear hy214
                      have H' := Aside0.mk H
                      clear H
                      obtain ⟨ASz62_0, cSz62_0, ja_, jb_, jc_, jd_, HGz62, hgz62, HSz62_0⟩ := HI177.out; clear ja_ jb_ jc_ jd_ HSz62_0
                      have hcz62_0 := cellS51_0 HGz62
                      have hcz62_1 := cellS51_1 HGz62
                      have hfz62_1 := blk_frozen HGz62 1
                      clear HGz62 hgz62
                      try go_wp2
                      have n0_ := Aside0.mk (Kd.R_drew HO_185001.out)
                      have n1_ := Aside0.mk (Kd.R_drew HO_185002.out)
                      have n2_ := Aside0.mk (Kd.R_drew HO_185003.out)
                      have n3_ := Aside0.mk (blk_drew BK173.out)
                      have n4_ := Aside0.mk (blk_drew BK184.out)
                      have n5_ := Aside0.mk (IsS51.drew HI177.out)
                      have n6_ := Aside0.mk (below_drew1 HB.out)
                      clear HO_185001
                      clear HO_185002
                      clear HO_185003
                      clear BK173
                      clear BK184
                      clear HI177
                      clear HB
                      have HO_185001 := n0_
                      have HO_185002 := n1_
                      have HO_185003 := n2_
                      have BK173 := n3_
                      have BK184 := n4_
                      have HI177 := n5_
                      have HB := n6_
                      clear n0_ n1_ n2_ n3_ n4_ n5_ n6_
                      refine start_ (n := 8) (S := fun w' => w'.cell? ⟨gb184, 0, none⟩ = some (.bool (t178 == 1)) ∧ w'.cell? ⟨gb184, 1, none⟩ = some (u185001) ∧ w'.cell? ⟨gb184, 2, none⟩ = some (u185002) ∧ w'.cell? ⟨gb184, 3, none⟩ = some (u185003)) (ds := [7]) #[false, false, false, false, false, false, false, false] (by kernel_rfl) rfl rfl ⟨(blk_cell BK184.out 0).trans rfl, (blk_cell BK184.out 1).trans rfl, (blk_cell BK184.out 2).trans rfl, (blk_cell BK184.out 3).trans rfl⟩ (fun hHeld => ?_); refine with_tabW node_Take.tab11 node_Take.bits11 (fun HT_ HW_ => ?_)
                      generalize wr.drew = w63 at HO_185001 HO_185002 HO_185003 BK173 BK184 HI177 HB hHeld ⊢
                      refine pure_ (i := 0) (N := some 52) (v := ?_) (a' := ?_) #[true, false, false, false, false, false, false, false] rfl rfl (any_of HT_.out (by kernel_rfl)) (fun _ _ _ h => h) (Or.inl ⟨by rfl, ?_⟩) ?_ ?_
                      rotate_left
                      · intro w'
                        go_simp
                        with_reducible rfl
                      rotate_left
                      · simp only [Act.put, List.setIfInBounds_toArray, List.set_cons_zero, List.set_cons_succ, i64_w, i32_w]
                        rfl
                      refine pure_ (i := 2) (N := some 54) (v := ?_) (a' := ?_) #[true, false, true, false, false, false, false, false] rfl rfl (any_of HT_.out (by kernel_rfl)) (fun _ _ _ h => h) (Or.inl ⟨by rfl, ?_⟩) ?_ ?_
                      rotate_left
                      · intro w'
                        go_simp
                        with_reducible rfl
                      rotate_left
                      · simp only [Act.put, List.setIfInBounds_toArray, List.set_cons_zero, List.set_cons_succ, i64_w, i32_w]
                        rfl
                      refine take_ (i := 1) (N := some 53) (v := ?_) (a' := ?_) #[true, true, true, false, false, false, false, false] rfl rfl (take_ofW HT_.out HW_.out (by kernel_rfl)) (fun _ _ _ h => h) (Or.inl ⟨by rfl, ?_⟩) hHeld ?_ ?_
                      rotate_left
                      · rintro w' ⟨s0, s1, s2, s3⟩
                        go_simp
                        with_reducible rfl
                      rotate_left
                      · simp only [Act.put, List.setIfInBounds_toArray, List.set_cons_zero, List.set_cons_succ, i64_w, i32_w]
                        rfl
                      refine one_ (i := 3) (N := some 55) #[true, true, true, true, false, false, false, false] rfl rfl (one_of HT_.out (by kernel_rfl)) (by decide) (fun K hK => ?_)
                      refine goes_ Try.func30 (by kernel_rfl) rfl #[.pointer (some ⟨g177, 0, none⟩)] (by rfl) rfl rfl (by (try simp only [List.map_toArray, List.map_cons, List.map_nil]); first | done | rfl | (simp only [List.length_drop, List.length_take]; rfl)) ?_
                      with_reducible refine (node_rtext.calls g177 t174 false x178002_2 t199 t200 t201 w _ ?side1 ?side2 A40.out).mono ?_
                      (case side1 => repeat (first | (with_reducible first | exact HI177.out | apply IsS51.alloc | apply IsS51.drewN | apply IsS51.drew | apply IsS51.set_1 | apply IsS51.set_2 | refine IsS51.far ?_ NB177_173.out _ | refine IsS51.far ?_ NB177_184.out _) | exact HI177.out))
                      (case side2 => repeat (first | (with_reducible first | exact HB.out | apply below_alloc | apply pw_below_drewN | apply below_drew1 | refine below_set ?_ (IsS51.ge HI177.out) | refine below_set ?_ GE173.out | refine below_set ?_ GE184.out) | exact HB.out))
                      rintro e w64 ⟨rfl, hi, hb, hk⟩
                      refine ⟨_, rfl, ?_⟩
                      have n0_ := Aside0.mk (Kd.R_mono (Kd.R_keep (IsS51.apart (show IsS51 w _ g177 t174 false x178002_2 from by repeat (first | (with_reducible first | exact HI177.out | apply IsS51.alloc | apply IsS51.drewN | apply IsS51.drew | apply IsS51.set_1 | apply IsS51.set_2 | refine IsS51.far ?_ NB177_173.out _ | refine IsS51.far ?_ NB177_184.out _) | exact HI177.out)) (by (with_reducible repeat (first | apply Kd.R_alloc | apply Kd.R_drewN | apply Kd.R_drew)); exact HO_185001.out) (by decide)) hk (fun _ h => h.2)) (fun _ h => h.1))
                      have n1_ := Aside0.mk (Kd.R_mono (Kd.R_keep (IsS51.apart (show IsS51 w _ g177 t174 false x178002_2 from by repeat (first | (with_reducible first | exact HI177.out | apply IsS51.alloc | apply IsS51.drewN | apply IsS51.drew | apply IsS51.set_1 | apply IsS51.set_2 | refine IsS51.far ?_ NB177_173.out _ | refine IsS51.far ?_ NB177_184.out _) | exact HI177.out)) (by (with_reducible repeat (first | apply Kd.R_alloc | apply Kd.R_drewN | apply Kd.R_drew)); exact HO_185002.out) (by decide)) hk (fun _ h => h.2)) (fun _ h => h.1))
                      have n2_ := Aside0.mk (Kd.R_mono (Kd.R_keep (IsS51.apart (show IsS51 w _ g177 t174 false x178002_2 from by repeat (first | (with_reducible first | exact HI177.out | apply IsS51.alloc | apply IsS51.drewN | apply IsS51.drew | apply IsS51.set_1 | apply IsS51.set_2 | refine IsS51.far ?_ NB177_173.out _ | refine IsS51.far ?_ NB177_184.out _) | exact HI177.out)) (by (with_reducible repeat (first | apply Kd.R_alloc | apply Kd.R_drewN | apply Kd.R_drew)); exact HO_185003.out) (by decide)) hk (fun _ h => h.2)) (fun _ h => h.1))
                      have n3_ := Aside0.mk (KeepBut.blk hk (g' := gb173) (o := .cells #[.bool false, .slice none 0 0, .slice none 0 0, .slice none 0 0] 25 (0, 0)) (by (with_reducible repeat (first | refine blk_drewN ?_ _ | refine blk_drew ?_ | refine blk_alloc ?_ _)); exact BK173.out) NB173_177.out (by simp))
                      have n4_ := Aside0.mk (KeepBut.blk hk (g' := gb184) (o := .cells #[.bool (t178 == 1), u185001, u185002, u185003] 25 (0, 0)) (by (with_reducible repeat (first | refine blk_drewN ?_ _ | refine blk_drew ?_ | refine blk_alloc ?_ _)); exact BK184.out) NB184_177.out (by simp))
                      have n5_ := Aside0.mk (hb)
                      have n6_ := Aside0.mk (hi)
                      clear HO_185001
                      clear HO_185002
                      clear HO_185003
                      clear BK173
                      clear BK184
                      clear HB
                      clear HI177
                      have HO_185001 := n0_
                      have HO_185002 := n1_
                      have HO_185003 := n2_
                      have BK173 := n3_
                      have BK184 := n4_
                      have HB := n5_
                      have HI177 := n6_
                      clear n0_ n1_ n2_ n3_ n4_ n5_ n6_
                      (try clear hb)
                      (try clear hb2)
                      (try clear hk)
                      (try clear hi)
                      refine hK.out _ _ ⟨(blk_cell BK184.out 0).trans rfl, (blk_cell BK184.out 1).trans rfl, (blk_cell BK184.out 2).trans rfl, (blk_cell BK184.out 3).trans rfl⟩ (fun hHeld => ?_)
                      clear hK K
                      refine norm_ (a' := ?_) ?_ ?_
                      rotate_left
                      · show Act.put _ (some 55) _ = _
                        simp only [Act.put, List.setIfInBounds_toArray, List.set_cons_zero, List.set_cons_succ, i64_w, i32_w]
                        rfl
                      refine one_ (i := 4) (N := some 56) #[true, true, true, true, true, false, false, false] rfl rfl (one_of HT_.out (by kernel_rfl)) (by decide) (fun K hK => ?_)
                      refine value_ (w1 := ?_) (v := ?_) (by rfl) rfl ?_ ?_
                      rotate_left 2
                      · go_simp
                        constructor
                        · rfl
                        · rfl
                      refine hK.out _ _ ⟨(blk_cell (blk_alloc BK184.out _) 0).trans rfl, (blk_cell (blk_alloc BK184.out _) 1).trans rfl, (blk_cell (blk_alloc BK184.out _) 2).trans rfl, (blk_cell (blk_alloc BK184.out _) 3).trans rfl⟩ (fun hHeld => ?_)
                      clear hK K
                      refine norm_ (a' := ?_) ?_ ?_
                      rotate_left
                      · show Act.put _ (some 56) _ = _
                        simp only [Act.put, List.setIfInBounds_toArray, List.set_cons_zero, List.set_cons_succ, i64_w, i32_w]
                        rfl
                      refine one_ (i := 5) (N := some 57) #[true, true, true, true, true, true, false, false] rfl rfl (one_of HT_.out (by kernel_rfl)) (by decide) (fun K hK => ?_)
                      refine Kd.R_append_step Kd.string (w0 := w) w.heap.size (by rfl) (.tmp 53) (.tmp 56) 22 9 (.string ⟨#[]⟩) 16 rfl Try.underlying22 info9 rfl (by decide) (by omega) u185001 x185001_2 t199 [.string t199] (fun k_ => some k_ ≠ (u185002 : Value).ownBlock) (fun _ => False) rfl rfl ?aP (fun _ hk => hk.elim) ?aF ?aO ?aB ?aS ?aL ?_
                      (case aP => exact rfl)
                      (case aB => exact (by repeat (first | (with_reducible first | exact HB.out | apply below_alloc | apply pw_below_drewN | apply below_drew1 | refine below_set ?_ (IsS51.ge HI177.out) | refine below_set ?_ GE173.out | refine below_set ?_ GE184.out) | exact HB.out)))
                      (case aF => exact (fun k_ hk => Kd.fresh' (Kd.R_lt (by (with_reducible repeat (first | apply Kd.R_alloc | apply Kd.R_drewN | apply Kd.R_drew)); exact HO_185002.out)) k_ hk))
                      (case aO => exact (by (with_reducible repeat (first | apply Kd.R_alloc | apply Kd.R_drewN | apply Kd.R_drew)); exact HO_185001.out))
                      (case aS => exact (below_size (by repeat (first | (with_reducible first | exact HB.out | apply below_alloc | apply pw_below_drewN | apply below_drew1 | refine below_set ?_ (IsS51.ge HI177.out) | refine below_set ?_ GE173.out | refine below_set ?_ GE184.out) | exact HB.out))))
                      (case aL => have := LMc41.out; omega)
                      intro v203 w65 ho hb hg hat
                      rw [← Ny202.out] at ho
                      have n0_ := Aside0.mk (Kd.R_after (ok := (fun _ => True)) (by (with_reducible repeat (first | apply Kd.R_alloc | apply Kd.R_drewN | apply Kd.R_drew)); exact Kd.R_mono HO_185002.out (fun _ hk => ⟨trivial, hk⟩)) hg hat)
                      have n1_ := Aside0.mk (Kd.R_over' (by (with_reducible repeat (first | apply Kd.R_alloc | apply Kd.R_drewN | apply Kd.R_drew)); exact HO_185003.out) (Kd.R_typed (by (with_reducible repeat (first | apply Kd.R_alloc | apply Kd.R_drewN | apply Kd.R_drew)); exact HO_185001.out)) (by decide) hg)
                      have n2_ := Aside0.mk (blk_grown (g := gb173) (o := .cells #[.bool false, .slice none 0 0, .slice none 0 0, .slice none 0 0] 25 (0, 0)) (by (with_reducible repeat (first | refine blk_drewN ?_ _ | refine blk_drew ?_ | refine blk_alloc ?_ _)); exact BK173.out) hg (Kd.R_ne HO_185001.out BK173.out (by decide)))
                      have n3_ := Aside0.mk (blk_grown (g := gb184) (o := .cells #[.bool (t178 == 1), u185001, u185002, u185003] 25 (0, 0)) (by (with_reducible repeat (first | refine blk_drewN ?_ _ | refine blk_drew ?_ | refine blk_alloc ?_ _)); exact BK184.out) hg (Kd.R_ne HO_185001.out BK184.out (by decide)))
                      have n4_ := Aside0.mk (IsS51.grown (by repeat (first | (with_reducible first | exact HI177.out | apply IsS51.alloc | apply IsS51.drewN | apply IsS51.drew | apply IsS51.set_1 | apply IsS51.set_2 | refine IsS51.far ?_ NB177_173.out _ | refine IsS51.far ?_ NB177_184.out _) | exact HI177.out)) hg (IsS51.own_ne HI177.out HO_185001.out (by decide)))
                      have n5_ := Aside0.mk (hb)
                      have n6_ := Aside0.mk (ho)
                      clear HO_185002
                      clear HO_185003
                      clear BK173
                      clear BK184
                      clear HI177
                      clear HB
                      clear HO_185001
                      have HO_185002 := n0_
                      have HO_185003 := n1_
                      have BK173 := n2_
                      have BK184 := n3_
                      have HI177 := n4_
                      have HB := n5_
                      have HO204 := n6_
                      clear n0_ n1_ n2_ n3_ n4_ n5_ n6_
                      clear ho hb hg hat
                      obtain ⟨Ao66, co66, eo66⟩ := Kd.R_slice HO204.out
                      (first | subst eo66 | (injection eo66 with f1_ f2_ f3_; have f4_ := f1_.symm; have f5_ := f3_.symm; clear f1_ f2_ f3_; subst f4_; subst f5_))
                      refine hK.out _ _ ⟨(blk_cell BK184.out 0).trans rfl, (blk_cell BK184.out 1).trans rfl, (blk_cell BK184.out 2).trans rfl, (blk_cell BK184.out 3).trans rfl⟩ (fun hHeld => ?_)
                      clear hK K
                      refine norm_ (a' := ?_) ?_ ?_
                      rotate_left
                      · show Act.put _ (some 57) _ = _
                        simp only [Act.put, List.setIfInBounds_toArray, List.set_cons_zero, List.set_cons_succ, i64_w, i32_w]
                        rfl
                      refine pure_ (i := 6) (N := some 58) (v := ?_) (a' := ?_) #[true, true, true, true, true, true, true, false] rfl rfl (any_of HT_.out (by kernel_rfl)) (fun _ _ _ h => h) (Or.inl ⟨by rfl, ?_⟩) ?_ ?_
                      rotate_left
                      · intro w'
                        go_simp
                        with_reducible rfl
                      rotate_left
                      · simp only [Act.put, List.setIfInBounds_toArray, List.set_cons_zero, List.set_cons_succ, i64_w, i32_w]
                        rfl
                      refine last_ (i := 7) (N := none) #[true, true, true, true, true, true, true, true] rfl rfl (one_of HT_.out (by kernel_rfl)) (by decide) (fun K hK => ?_)
                      have hs67 : w65.cell? ⟨gb184, 1, none⟩ = some (u185001) := (blk_cell BK184.out 1).trans rfl
                      have hfs67 := blk_frozen BK184.out 1
                      have hns67_0 := NB173_184.out
                      have hms67_0 := NB184_173.out
                      refine skip_ (w1 := ?_) (by rfl) rfl ?_ ?_
                      rotate_left
                      · go_simp
                        rfl
                      refine hK.out _ _ ?_
                      clear hK K
                      refine done_ (done_of HT_.out (by kernel_rfl)) ?_
                      have hnb68 := NB184_173.out
                      have hnc68 := NB173_184.out
                      have hnb69 := NB184_177.out
                      have hnc69 := NB177_184.out
                      have hcz70_0 : w65.cell? ⟨gb184, 0, none⟩ = some (.bool (t178 == 1)) := (blk_cell BK184.out 0).trans rfl
                      have hcz70_1 : w65.cell? ⟨gb184, 1, none⟩ = some (u185001) := (blk_cell BK184.out 1).trans rfl
                      have hcz70_2 : w65.cell? ⟨gb184, 2, none⟩ = some (u185002) := (blk_cell BK184.out 2).trans rfl
                      have hcz70_3 : w65.cell? ⟨gb184, 3, none⟩ = some (u185003) := (blk_cell BK184.out 3).trans rfl
                      have hfz70_0 := blk_frozen BK184.out 0
                      have hfz70_1 := blk_frozen BK184.out 1
                      have hfz70_2 := blk_frozen BK184.out 2
                      have hfz70_3 := blk_frozen BK184.out 3
                      try go_wp2
                      have n0_ : Aside0 (Kd.R Kd.string 9 (w65.setCell ⟨gb184, 1, none⟩ (.slice Ao66 y202.length co66)) w.heap.size (fun k_ => some k_ ≠ (.slice Ao66 y202.length co66 : Value).ownBlock) u185002 x185002_2) := ⟨by (with_reducible repeat (first | apply Kd.R_alloc | apply Kd.R_drewN | apply Kd.R_drew)); exact Kd.R_mono (Kd.R_far (p := ⟨gb184, 1, none⟩) (Kd.R_types HO_185002.out BK184.out (by decide)) (fun _ hk => hk.2) (.slice Ao66 y202.length co66)) (fun _ hk => hk.1.2)⟩
                      have n1_ : Aside0 (Kd.R (Kd.int .i64) 3 (w65.setCell ⟨gb184, 1, none⟩ (.slice Ao66 y202.length co66)) w.heap.size (fun _ => True) u185003 x185003_2) := ⟨by (with_reducible repeat (first | apply Kd.R_alloc | apply Kd.R_drewN | apply Kd.R_drew)); exact Kd.R_mono (Kd.R_far (p := ⟨gb184, 1, none⟩) (Kd.R_types HO_185003.out BK184.out (by decide)) (fun _ hk => hk.2) (.slice Ao66 y202.length co66)) (fun _ hk => trivial)⟩
                      have n2_ : Aside0 (Kd.R Kd.string 9 (w65.setCell ⟨gb184, 1, none⟩ (.slice Ao66 y202.length co66)) w.heap.size (fun k_ => some k_ ≠ (u185002 : Value).ownBlock) (.slice Ao66 y202.length co66) y202) := ⟨by (with_reducible repeat (first | apply Kd.R_alloc | apply Kd.R_drewN | apply Kd.R_drew)); exact Kd.R_mono (Kd.R_far (p := ⟨gb184, 1, none⟩) (Kd.R_types HO204.out BK184.out (by decide)) (fun _ hk => hk.2) (.slice Ao66 y202.length co66)) (fun _ hk => hk.1)⟩
                      have n3_ : Aside0 ((w65.setCell ⟨gb184, 1, none⟩ (.slice Ao66 y202.length co66)).heap[gb173]? = some (.cells #[.bool false, .slice none 0 0, .slice none 0 0, .slice none 0 0] 25 (0, 0))) := ⟨by (with_reducible repeat (first | refine blk_drewN ?_ _ | refine blk_drew ?_ | refine blk_alloc ?_ _)); refine blk_far ?_ NB173_184.out _; (with_reducible repeat (first | refine blk_drewN ?_ _ | refine blk_drew ?_ | refine blk_alloc ?_ _)); exact BK173.out⟩
                      have n4_ : Aside0 ((w65.setCell ⟨gb184, 1, none⟩ (.slice Ao66 y202.length co66)).heap[gb184]? = some (.cells #[.bool (t178 == 1), .slice Ao66 y202.length co66, u185002, u185003] 25 (0, 0))) := ⟨by (with_reducible repeat (first | refine blk_drewN ?_ _ | refine blk_drew ?_ | refine blk_alloc ?_ _)); refine blk_put (cs := #[.bool (t178 == 1), u185001, u185002, u185003]) ?_ 1 _ rfl; (with_reducible repeat (first | refine blk_drewN ?_ _ | refine blk_drew ?_ | refine blk_alloc ?_ _)); exact BK184.out⟩
                      have n5_ : Aside0 (IsS51 w (w65.setCell ⟨gb184, 1, none⟩ (.slice Ao66 y202.length co66)) g177 t174 t200 t201) := ⟨by repeat (first | (with_reducible first | exact HI177.out | apply IsS51.alloc | apply IsS51.drewN | apply IsS51.drew | apply IsS51.set_1 | apply IsS51.set_2 | refine IsS51.far ?_ NB177_173.out _ | refine IsS51.far ?_ NB177_184.out _) | exact HI177.out)⟩
                      have n6_ : Aside0 (Below w.heap.size w (w65.setCell ⟨gb184, 1, none⟩ (.slice Ao66 y202.length co66))) := ⟨by repeat (first | (with_reducible first | exact HB.out | apply below_alloc | apply pw_below_drewN | apply below_drew1 | refine below_set ?_ (IsS51.ge HI177.out) | refine below_set ?_ GE173.out | refine below_set ?_ GE184.out) | exact HB.out)⟩
                      (try clear HO_185002)
                      (try clear HO_185003)
                      (try clear HO204)
                      (try clear BK173)
                      (try clear BK184)
                      (try clear HI177)
                      (try clear HB)
                      generalize (w65.setCell ⟨gb184, 1, none⟩ (.slice Ao66 y202.length co66)) = w71 at n0_ n1_ n2_ n3_ n4_ n5_ n6_ ⊢
                      have HO_185002 := n0_
                      have HO_185003 := n1_
                      have HO204 := n2_
                      have BK173 := n3_
                      have BK184 := n4_
                      have HI177 := n5_
                      have HB := n6_
                      clear n0_ n1_ n2_ n3_ n4_ n5_ n6_
                      have n0_ := Aside0.mk (Kd.R_drew HO_185002.out)
                      have n1_ := Aside0.mk (Kd.R_drew HO_185003.out)
                      have n2_ := Aside0.mk (Kd.R_drew HO204.out)
                      have n3_ := Aside0.mk (blk_drew BK173.out)
                      have n4_ := Aside0.mk (blk_drew BK184.out)
                      have n5_ := Aside0.mk (IsS51.drew HI177.out)
                      have n6_ := Aside0.mk (below_drew1 HB.out)
                      clear HO_185002
                      clear HO_185003
                      clear HO204
                      clear BK173
                      clear BK184
                      clear HI177
                      clear HB
                      have HO_185002 := n0_
                      have HO_185003 := n1_
                      have HO204 := n2_
                      have BK173 := n3_
                      have BK184 := n4_
                      have HI177 := n5_
                      have HB := n6_
                      clear n0_ n1_ n2_ n3_ n4_ n5_ n6_
                      refine start_ (n := 8) (S := fun w' => w'.cell? ⟨gb184, 0, none⟩ = some (.bool (t178 == 1)) ∧ w'.cell? ⟨gb184, 1, none⟩ = some (.slice Ao66 y202.length co66) ∧ w'.cell? ⟨gb184, 2, none⟩ = some (u185002) ∧ w'.cell? ⟨gb184, 3, none⟩ = some (u185003)) (ds := [7]) #[false, false, false, false, false, false, false, false] (by kernel_rfl) rfl rfl ⟨(blk_cell BK184.out 0).trans rfl, (blk_cell BK184.out 1).trans rfl, (blk_cell BK184.out 2).trans rfl, (blk_cell BK184.out 3).trans rfl⟩ (fun hHeld => ?_); refine with_tabW node_Take.tab14 node_Take.bits14 (fun HT_ HW_ => ?_)
                      generalize w71.drew = w72 at HO_185002 HO_185003 HO204 BK173 BK184 HI177 HB hHeld ⊢
                      refine pure_ (i := 0) (N := some 68) (v := ?_) (a' := ?_) #[true, false, false, false, false, false, false, false] rfl rfl (any_of HT_.out (by kernel_rfl)) (fun _ _ _ h => h) (Or.inl ⟨by rfl, ?_⟩) ?_ ?_
                      rotate_left
                      · intro w'
                        go_simp
                        with_reducible rfl
                      rotate_left
                      · simp only [Act.put, List.setIfInBounds_toArray, List.set_cons_zero, List.set_cons_succ, i64_w, i32_w]
                        rfl
                      refine pure_ (i := 2) (N := some 70) (v := ?_) (a' := ?_) #[true, false, true, false, false, false, false, false] rfl rfl (any_of HT_.out (by kernel_rfl)) (fun _ _ _ h => h) (Or.inl ⟨by rfl, ?_⟩) ?_ ?_
                      rotate_left
                      · intro w'
                        go_simp
                        with_reducible rfl
                      rotate_left
                      · simp only [Act.put, List.setIfInBounds_toArray, List.set_cons_zero, List.set_cons_succ, i64_w, i32_w]
                        rfl
                      refine take_ (i := 1) (N := some 69) (v := ?_) (a' := ?_) #[true, true, true, false, false, false, false, false] rfl rfl (take_ofW HT_.out HW_.out (by kernel_rfl)) (fun _ _ _ h => h) (Or.inl ⟨by rfl, ?_⟩) hHeld ?_ ?_
                      rotate_left
                      · rintro w' ⟨s0, s1, s2, s3⟩
                        go_simp
                        with_reducible rfl
                      rotate_left
                      · simp only [Act.put, List.setIfInBounds_toArray, List.set_cons_zero, List.set_cons_succ, i64_w, i32_w]
                        rfl
                      refine one_ (i := 3) (N := some 71) #[true, true, true, true, false, false, false, false] rfl rfl (one_of HT_.out (by kernel_rfl)) (by decide) (fun K hK => ?_)
                      refine goes_ Try.func29 (by kernel_rfl) rfl #[.pointer (some ⟨g177, 0, none⟩)] (by rfl) rfl rfl (by (try simp only [List.map_toArray, List.map_cons, List.map_nil]); first | done | rfl | (simp only [List.length_drop, List.length_take]; rfl)) ?_
                      with_reducible refine (node_number4.calls g177 t174 t200 t201 t211 t212 t213 w _ ?side1 ?side2 A60.out).mono ?_
                      (case side1 => repeat (first | (with_reducible first | exact HI177.out | apply IsS51.alloc | apply IsS51.drewN | apply IsS51.drew | apply IsS51.set_1 | apply IsS51.set_2 | refine IsS51.far ?_ NB177_173.out _ | refine IsS51.far ?_ NB177_184.out _) | exact HI177.out))
                      (case side2 => repeat (first | (with_reducible first | exact HB.out | apply below_alloc | apply pw_below_drewN | apply below_drew1 | refine below_set ?_ (IsS51.ge HI177.out) | refine below_set ?_ GE173.out | refine below_set ?_ GE184.out) | exact HB.out))
                      rintro e w73 ⟨rfl, hi, hb, hk⟩
                      refine ⟨_, rfl, ?_⟩
                      have n0_ := Aside0.mk (Kd.R_mono (Kd.R_keep (IsS51.apart (show IsS51 w _ g177 t174 t200 t201 from by repeat (first | (with_reducible first | exact HI177.out | apply IsS51.alloc | apply IsS51.drewN | apply IsS51.drew | apply IsS51.set_1 | apply IsS51.set_2 | refine IsS51.far ?_ NB177_173.out _ | refine IsS51.far ?_ NB177_184.out _) | exact HI177.out)) (by (with_reducible repeat (first | apply Kd.R_alloc | apply Kd.R_drewN | apply Kd.R_drew)); exact HO_185002.out) (by decide)) hk (fun _ h => h.2)) (fun _ h => h.1))
                      have n1_ := Aside0.mk (Kd.R_mono (Kd.R_keep (IsS51.apart (show IsS51 w _ g177 t174 t200 t201 from by repeat (first | (with_reducible first | exact HI177.out | apply IsS51.alloc | apply IsS51.drewN | apply IsS51.drew | apply IsS51.set_1 | apply IsS51.set_2 | refine IsS51.far ?_ NB177_173.out _ | refine IsS51.far ?_ NB177_184.out _) | exact HI177.out)) (by (with_reducible repeat (first | apply Kd.R_alloc | apply Kd.R_drewN | apply Kd.R_drew)); exact HO_185003.out) (by decide)) hk (fun _ h => h.2)) (fun _ h => h.1))
                      have n2_ := Aside0.mk (KeepBut.blk hk (g' := gb173) (o := .cells #[.bool false, .slice none 0 0, .slice none 0 0, .slice none 0 0] 25 (0, 0)) (by (with_reducible repeat (first | refine blk_drewN ?_ _ | refine blk_drew ?_ | refine blk_alloc ?_ _)); exact BK173.out) NB173_177.out (by simp))
                      have n3_ := Aside0.mk (KeepBut.blk hk (g' := gb184) (o := .cells #[.bool (t178 == 1), .slice Ao66 y202.length co66, u185002, u185003] 25 (0, 0)) (by (with_reducible repeat (first | refine blk_drewN ?_ _ | refine blk_drew ?_ | refine blk_alloc ?_ _)); exact BK184.out) NB184_177.out (by simp))
                      have n4_ := Aside0.mk (Kd.R_mono (Kd.R_keep (IsS51.apart (show IsS51 w _ g177 t174 t200 t201 from by repeat (first | (with_reducible first | exact HI177.out | apply IsS51.alloc | apply IsS51.drewN | apply IsS51.drew | apply IsS51.set_1 | apply IsS51.set_2 | refine IsS51.far ?_ NB177_173.out _ | refine IsS51.far ?_ NB177_184.out _) | exact HI177.out)) (by (with_reducible repeat (first | apply Kd.R_alloc | apply Kd.R_drewN | apply Kd.R_drew)); exact HO204.out) (by decide)) hk (fun _ h => h.2)) (fun _ h => h.1))
                      have n5_ := Aside0.mk (hb)
                      have n6_ := Aside0.mk (hi)
                      clear HO_185002
                      clear HO_185003
                      clear BK173
                      clear BK184
                      clear HO204
                      clear HB
                      clear HI177
                      have HO_185002 := n0_
                      have HO_185003 := n1_
                      have BK173 := n2_
                      have BK184 := n3_
                      have HO204 := n4_
                      have HB := n5_
                      have HI177 := n6_
                      clear n0_ n1_ n2_ n3_ n4_ n5_ n6_
                      (try clear hb)
                      (try clear hb2)
                      (try clear hk)
                      (try clear hi)
                      refine hK.out _ _ ⟨(blk_cell BK184.out 0).trans rfl, (blk_cell BK184.out 1).trans rfl, (blk_cell BK184.out 2).trans rfl, (blk_cell BK184.out 3).trans rfl⟩ (fun hHeld => ?_)
                      clear hK K
                      refine norm_ (a' := ?_) ?_ ?_
                      rotate_left
                      · show Act.put _ (some 71) _ = _
                        simp only [Act.put, List.setIfInBounds_toArray, List.set_cons_zero, List.set_cons_succ, i64_w, i32_w]
                        rfl
                      refine one_ (i := 4) (N := some 72) #[true, true, true, true, true, false, false, false] rfl rfl (one_of HT_.out (by kernel_rfl)) (by decide) (fun K hK => ?_)
                      refine value_ (w1 := ?_) (v := ?_) (by rfl) rfl ?_ ?_
                      rotate_left 2
                      · go_simp
                        constructor
                        · rfl
                        · rfl
                      refine hK.out _ _ ⟨(blk_cell (blk_alloc BK184.out _) 0).trans rfl, (blk_cell (blk_alloc BK184.out _) 1).trans rfl, (blk_cell (blk_alloc BK184.out _) 2).trans rfl, (blk_cell (blk_alloc BK184.out _) 3).trans rfl⟩ (fun hHeld => ?_)
                      clear hK K
                      refine norm_ (a' := ?_) ?_ ?_
                      rotate_left
                      · show Act.put _ (some 72) _ = _
                        simp only [Act.put, List.setIfInBounds_toArray, List.set_cons_zero, List.set_cons_succ, i64_w, i32_w]
                        rfl
                      refine one_ (i := 5) (N := some 73) #[true, true, true, true, true, true, false, false] rfl rfl (one_of HT_.out (by kernel_rfl)) (by decide) (fun K hK => ?_)
                      refine Kd.R_append_step (Kd.int .i64) (w0 := w) w.heap.size (by rfl) (.tmp 69) (.tmp 72) 23 3 (.int .i64 0) 8 rfl Try.underlying23 info3 rfl (by decide) (by omega) u185003 x185003_2 t211 [.int .i64 t211] (fun _ => True) (fun _ => False) rfl rfl ?aP (fun _ hk => hk.elim) ?aF ?aO ?aB ?aS ?aL ?_
                      (case aP => exact rfl)
                      (case aB => exact (by repeat (first | (with_reducible first | exact HB.out | apply below_alloc | apply pw_below_drewN | apply below_drew1 | refine below_set ?_ (IsS51.ge HI177.out) | refine below_set ?_ GE173.out | refine below_set ?_ GE184.out) | exact HB.out)))
                      (case aF => exact (fun _ _ => trivial))
                      (case aO => exact (by (with_reducible repeat (first | apply Kd.R_alloc | apply Kd.R_drewN | apply Kd.R_drew)); exact HO_185003.out))
                      (case aS => exact (below_size (by repeat (first | (with_reducible first | exact HB.out | apply below_alloc | apply pw_below_drewN | apply below_drew1 | refine below_set ?_ (IsS51.ge HI177.out) | refine below_set ?_ GE173.out | refine below_set ?_ GE184.out) | exact HB.out))))
                      (case aL => have := LMc61.out; omega)
                      intro v215 w74 ho hb hg hat
                      rw [← Ny214.out] at ho
                      have n0_ := Aside0.mk (Kd.R_over' (by (with_reducible repeat (first | apply Kd.R_alloc | apply Kd.R_drewN | apply Kd.R_drew)); exact HO_185002.out) (Kd.R_typed (by (with_reducible repeat (first | apply Kd.R_alloc | apply Kd.R_drewN | apply Kd.R_drew)); exact HO_185003.out)) (by decide) hg)
                      have n1_ := Aside0.mk (blk_grown (g := gb173) (o := .cells #[.bool false, .slice none 0 0, .slice none 0 0, .slice none 0 0] 25 (0, 0)) (by (with_reducible repeat (first | refine blk_drewN ?_ _ | refine blk_drew ?_ | refine blk_alloc ?_ _)); exact BK173.out) hg (Kd.R_ne HO_185003.out BK173.out (by decide)))
                      have n2_ := Aside0.mk (blk_grown (g := gb184) (o := .cells #[.bool (t178 == 1), .slice Ao66 y202.length co66, u185002, u185003] 25 (0, 0)) (by (with_reducible repeat (first | refine blk_drewN ?_ _ | refine blk_drew ?_ | refine blk_alloc ?_ _)); exact BK184.out) hg (Kd.R_ne HO_185003.out BK184.out (by decide)))
                      have n3_ := Aside0.mk (IsS51.grown (by repeat (first | (with_reducible first | exact HI177.out | apply IsS51.alloc | apply IsS51.drewN | apply IsS51.drew | apply IsS51.set_1 | apply IsS51.set_2 | refine IsS51.far ?_ NB177_173.out _ | refine IsS51.far ?_ NB177_184.out _) | exact HI177.out)) hg (IsS51.own_ne HI177.out HO_185003.out (by decide)))
                      have n4_ := Aside0.mk (Kd.R_over' (by (with_reducible repeat (first | apply Kd.R_alloc | apply Kd.R_drewN | apply Kd.R_drew)); exact HO204.out) (Kd.R_typed (by (with_reducible repeat (first | apply Kd.R_alloc | apply Kd.R_drewN | apply Kd.R_drew)); exact HO_185003.out)) (by decide) hg)
                      have n5_ := Aside0.mk (hb)
                      have n6_ := Aside0.mk (ho)
                      clear HO_185002
                      clear BK173
                      clear BK184
                      clear HI177
                      clear HO204
                      clear HB
                      clear HO_185003
                      have HO_185002 := n0_
                      have BK173 := n1_
                      have BK184 := n2_
                      have HI177 := n3_
                      have HO204 := n4_
                      have HB := n5_
                      have HO216 := n6_
                      clear n0_ n1_ n2_ n3_ n4_ n5_ n6_
                      clear ho hb hg hat
                      obtain ⟨Ao75, co75, eo75⟩ := Kd.R_slice HO216.out
                      (first | subst eo75 | (injection eo75 with f1_ f2_ f3_; have f4_ := f1_.symm; have f5_ := f3_.symm; clear f1_ f2_ f3_; subst f4_; subst f5_))
                      refine hK.out _ _ ⟨(blk_cell BK184.out 0).trans rfl, (blk_cell BK184.out 1).trans rfl, (blk_cell BK184.out 2).trans rfl, (blk_cell BK184.out 3).trans rfl⟩ (fun hHeld => ?_)
                      clear hK K
                      refine norm_ (a' := ?_) ?_ ?_
                      rotate_left
                      · show Act.put _ (some 73) _ = _
                        simp only [Act.put, List.setIfInBounds_toArray, List.set_cons_zero, List.set_cons_succ, i64_w, i32_w]
                        rfl
                      refine pure_ (i := 6) (N := some 74) (v := ?_) (a' := ?_) #[true, true, true, true, true, true, true, false] rfl rfl (any_of HT_.out (by kernel_rfl)) (fun _ _ _ h => h) (Or.inl ⟨by rfl, ?_⟩) ?_ ?_
                      rotate_left
                      · intro w'
                        go_simp
                        with_reducible rfl
                      rotate_left
                      · simp only [Act.put, List.setIfInBounds_toArray, List.set_cons_zero, List.set_cons_succ, i64_w, i32_w]
                        rfl
                      refine last_ (i := 7) (N := none) #[true, true, true, true, true, true, true, true] rfl rfl (one_of HT_.out (by kernel_rfl)) (by decide) (fun K hK => ?_)
                      have hs76 : w74.cell? ⟨gb184, 3, none⟩ = some (u185003) := (blk_cell BK184.out 3).trans rfl
                      have hfs76 := blk_frozen BK184.out 3
                      have hns76_0 := NB173_184.out
                      have hms76_0 := NB184_173.out
                      refine skip_ (w1 := ?_) (by rfl) rfl ?_ ?_
                      rotate_left
                      · go_simp
                        rfl
                      refine hK.out _ _ ?_
                      clear hK K
                      refine done_ (done_of HT_.out (by kernel_rfl)) ?_
                      try go_wp2
                      go_roundg k2
                      case measure => have := HJ5.out; have := HK2.out; omega
                      case rel => exact ⟨(wrap64 (x46_2 + 1)), (t212), (t213), (y202), (x185002_2), (y214), (.slice Ao66 y202.length co66), (u185002), (.slice Ao75 y214.length co75), (by first | rfl | (simp; done) | (simp [*]; done)), H', ⟨by have := HJ5.out; have := HK2.out; omega⟩, ⟨by (with_reducible repeat (first | apply Kd.R_alloc | apply Kd.R_drewN | apply Kd.R_drew)); exact Kd.R_mono (Kd.R_far (p := ⟨gb184, 3, none⟩) (Kd.R_types HO204.out BK184.out (by decide)) (fun _ hk => hk.2) (.slice Ao75 y214.length co75)) (fun _ hk => hk.1)⟩, ⟨by (with_reducible repeat (first | apply Kd.R_alloc | apply Kd.R_drewN | apply Kd.R_drew)); exact Kd.R_mono (Kd.R_far (p := ⟨gb184, 3, none⟩) (Kd.R_types HO_185002.out BK184.out (by decide)) (fun _ hk => hk.2) (.slice Ao75 y214.length co75)) (fun _ hk => hk.1)⟩, ⟨by (with_reducible repeat (first | apply Kd.R_alloc | apply Kd.R_drewN | apply Kd.R_drew)); exact Kd.R_mono (Kd.R_far (p := ⟨gb184, 3, none⟩) (Kd.R_types HO216.out BK184.out (by decide)) (fun _ hk => hk.2) (.slice Ao75 y214.length co75)) (fun _ hk => trivial)⟩, ⟨by (with_reducible repeat (first | refine blk_drewN ?_ _ | refine blk_drew ?_ | refine blk_alloc ?_ _)); refine blk_far ?_ NB173_184.out _; (with_reducible repeat (first | refine blk_drewN ?_ _ | refine blk_drew ?_ | refine blk_alloc ?_ _)); exact BK173.out⟩, ⟨by (with_reducible repeat (first | refine blk_drewN ?_ _ | refine blk_drew ?_ | refine blk_alloc ?_ _)); refine blk_put (cs := #[.bool (t178 == 1), .slice Ao66 y202.length co66, u185002, u185003]) ?_ 3 _ rfl; (with_reducible repeat (first | refine blk_drewN ?_ _ | refine blk_drew ?_ | refine blk_alloc ?_ _)); exact BK184.out⟩, ⟨by repeat (first | (with_reducible first | exact HI177.out | apply IsS51.alloc | apply IsS51.drewN | apply IsS51.drew | apply IsS51.set_1 | apply IsS51.set_2 | refine IsS51.far ?_ NB177_173.out _ | refine IsS51.far ?_ NB177_184.out _) | exact HI177.out)⟩, ⟨by repeat (first | (with_reducible first | exact HB.out | apply below_alloc | apply pw_below_drewN | apply below_drew1 | refine below_set ?_ (IsS51.ge HI177.out) | refine below_set ?_ GE173.out | refine below_set ?_ GE184.out) | exact HB.out)⟩⟩
                    · rw [if_neg c61] at H
                      exact absurd H (by simp)
                · rw [if_neg c41] at H
                  exact absurd H (by simp)
            · rw [if_neg c26] at H
              have c26b0 : decide (x46_2 < t181) = false := decide_eq_false c26
              clear c26
              replace H := Option.bind_eq_some_iff.mp H
              obtain ⟨⟨t191, t194⟩, A770, H⟩ := H
              replace H : (if x178001_2 = true then (some (false, ([] : List ByteArray), ([] : List ByteArray), ([] : List Int), 200)) else (if t194 = 0 then (if (strOfNums t191).toList = (strOfNums l0).toList then (some ((t178 == 1), x185001_2, x185002_2, x185003_2, 0)) else (some (false, ([] : List ByteArray), ([] : List ByteArray), ([] : List Int), 200))) else (some (false, ([] : List ByteArray), ([] : List ByteArray), ([] : List Int), 200)))) = some (r1, r2, r3, r4, r5) := H
              have A77 := Aside0.mk A770
              clear A770
              by_cases c78 : x178001_2 = true
              · subst c78
                have H1 : (some (false, ([] : List ByteArray), ([] : List ByteArray), ([] : List Int), 200)) = some (r1, r2, r3, r4, r5) := by rw [if_pos rfl] at H; exact H
                clear H
                have H := H1
                clear H1
                simp only [Option.some.injEq, Prod.mk.injEq] at H
                obtain ⟨rfl, rfl, rfl, rfl, rfl⟩ := H
                have hnb79 := NB184_173.out
                have hnc79 := NB173_184.out
                have hnb80 := NB184_177.out
                have hnc80 := NB177_184.out
                have hcz81_0 : wr.cell? ⟨gb184, 0, none⟩ = some (.bool (t178 == 1)) := (blk_cell BK184.out 0).trans rfl
                have hcz81_1 : wr.cell? ⟨gb184, 1, none⟩ = some (u185001) := (blk_cell BK184.out 1).trans rfl
                have hcz81_2 : wr.cell? ⟨gb184, 2, none⟩ = some (u185002) := (blk_cell BK184.out 2).trans rfl
                have hcz81_3 : wr.cell? ⟨gb184, 3, none⟩ = some (u185003) := (blk_cell BK184.out 3).trans rfl
                have hfz81_0 := blk_frozen BK184.out 0
                have hfz81_1 := blk_frozen BK184.out 1
                have hfz81_2 := blk_frozen BK184.out 2
                have hfz81_3 := blk_frozen BK184.out 3
                obtain ⟨Ao82, co82, eo82⟩ := Kd.R_slice HO_185001.out
                subst eo82
                obtain ⟨Ao83, co83, eo83⟩ := Kd.R_slice HO_185002.out
                subst eo83
                obtain ⟨Ao84, co84, eo84⟩ := Kd.R_slice HO_185003.out
                subst eo84
                go_wp2_with (first | ((with_reducible refine gate_callee (f := 31) rfl ?_); refine goesL_ (some 78) rfl rfl Try.func31 (by kernel_rfl) rfl #[.agg #[.bool (t178 == 1), .slice Ao82 x185001_2.length co82, .slice Ao83 x185002_2.length co83, .slice Ao84 x185003_2.length co84]] rfl (by (try simp only [List.map_toArray, List.map_cons, List.map_nil]); first | done | rfl | (simp only [List.length_drop, List.length_take]; rfl)) ?_; (with_reducible refine (node_put.calls k2 (t178 == 1) _ _ x185001_2 _ _ x185002_2 _ _ x185003_2 t191 t194 _ ?side1 ?side2 ?side3 ?side4 ?side5 ?side6 A77.out).mono ?_); (case side1 => repeat (first | exact (Kd.R_reads' HO_185001.out).2.2 | (with_reducible refine Kd.C_alloc ?_ _) | (with_reducible refine Kd.C_drewN ?_ _) | (with_reducible refine Kd.C_drew ?_))); (case side2 => exact (Kd.R_reads' HO_185001.out).2.1); (case side3 => repeat (first | exact (Kd.R_reads' HO_185002.out).2.2 | (with_reducible refine Kd.C_alloc ?_ _) | (with_reducible refine Kd.C_drewN ?_ _) | (with_reducible refine Kd.C_drew ?_))); (case side4 => exact (Kd.R_reads' HO_185002.out).2.1); (case side5 => repeat (first | exact (Kd.R_reads' HO_185003.out).2.2 | (with_reducible refine Kd.C_alloc ?_ _) | (with_reducible refine Kd.C_drewN ?_ _) | (with_reducible refine Kd.C_drew ?_))); (case side6 => exact (Kd.R_reads' HO_185003.out).2.1); rintro e w85 ⟨v192, rfl, ho0, hb⟩; refine ⟨_, rfl, ?_⟩; have n0_ := Aside0.mk (Kd.R_below (by (with_reducible repeat (first | apply Kd.R_alloc | apply Kd.R_drewN | apply Kd.R_drew)); exact HO_185001.out) hb); have n1_ := Aside0.mk (Kd.R_below (by (with_reducible repeat (first | apply Kd.R_alloc | apply Kd.R_drewN | apply Kd.R_drew)); exact HO_185002.out) hb); have n2_ := Aside0.mk (Kd.R_below (by (with_reducible repeat (first | apply Kd.R_alloc | apply Kd.R_drewN | apply Kd.R_drew)); exact HO_185003.out) hb); have n3_ := Aside0.mk (Kd.R_lower ho0 (below_size (by repeat (first | (with_reducible first | exact HB.out | apply below_alloc | apply pw_below_drewN | apply below_drew1 | refine below_set ?_ (IsS51.ge HI177.out) | refine below_set ?_ GE173.out | refine below_set ?_ GE184.out) | exact HB.out)))); have n4_ := Aside0.mk (blk_below (g := gb173) (o := .cells #[.bool false, .slice none 0 0, .slice none 0 0, .slice none 0 0] 25 (0, 0)) (by (with_reducible repeat (first | refine blk_drewN ?_ _ | refine blk_drew ?_ | refine blk_alloc ?_ _)); exact BK173.out) hb); have n5_ := Aside0.mk (blk_below (g := gb184) (o := .cells #[.bool (t178 == 1), .slice Ao82 x185001_2.length co82, .slice Ao83 x185002_2.length co83, .slice Ao84 x185003_2.length co84] 25 (0, 0)) (by (with_reducible repeat (first | refine blk_drewN ?_ _ | refine blk_drew ?_ | refine blk_alloc ?_ _)); exact BK184.out) hb); have n6_ := Aside0.mk (IsS51.below (by repeat (first | (with_reducible first | exact HI177.out | apply IsS51.alloc | apply IsS51.drewN | apply IsS51.drew | apply IsS51.set_1 | apply IsS51.set_2 | refine IsS51.far ?_ NB177_173.out _ | refine IsS51.far ?_ NB177_184.out _) | exact HI177.out)) hb); have n7_ := Aside0.mk (below_step (by repeat (first | (with_reducible first | exact HB.out | apply below_alloc | apply pw_below_drewN | apply below_drew1 | refine below_set ?_ (IsS51.ge HI177.out) | refine below_set ?_ GE173.out | refine below_set ?_ GE184.out) | exact HB.out)) hb); clear HO_185001; clear HO_185002; clear HO_185003; clear BK173; clear BK184; clear HI177; clear HB; have HO_185001 := n0_; have HO_185002 := n1_; have HO_185003 := n2_; have HO193 := n3_; have BK173 := n4_; have BK184 := n5_; have HI177 := n6_; have HB := n7_; clear n0_ n1_ n2_ n3_ n4_ n5_ n6_ n7_; (try clear hb); (try clear hb2); (try clear hk); (try clear hi); (try clear ho0); obtain ⟨ASz86_0, cSz86_0, ja_, jb_, jc_, jd_, HGz86, hgz86, HSz86_0⟩ := HI177.out; clear ja_ jb_ jc_ jd_ HSz86_0; have hcz86_0 := cellS51_0 HGz86; have hcz86_1 := cellS51_1 HGz86; have hcz86_2 := cellS51_2 HGz86; have hfz86_1 := blk_frozen HGz86 1; have hfz86_2 := blk_frozen HGz86 2; clear HGz86 hgz86; have hnb87 := NB173_177.out; have hnc87 := NB177_173.out; have hcz88_0 : w85.cell? ⟨gb173, 0, none⟩ = some (.bool false) := (blk_cell BK173.out 0).trans rfl; have hcz88_1 : w85.cell? ⟨gb173, 1, none⟩ = some (.slice none 0 0) := (blk_cell BK173.out 1).trans rfl; have hcz88_2 : w85.cell? ⟨gb173, 2, none⟩ = some (.slice none 0 0) := (blk_cell BK173.out 2).trans rfl; have hcz88_3 : w85.cell? ⟨gb173, 3, none⟩ = some (.slice none 0 0) := (blk_cell BK173.out 3).trans rfl; have hfz88_0 := blk_frozen BK173.out 0; have hfz88_1 := blk_frozen BK173.out 1; have hfz88_2 := blk_frozen BK173.out 2; have hfz88_3 := blk_frozen BK173.out 3))
                refine bodyPost_ret (results_ct rfl _ _ gb173 25 #[.bool false, .slice none 0 0, .slice none 0 0, .slice none 0 0] (0, 0) _ rfl (by (with_reducible repeat (first | refine blk_drewN ?_ _ | refine blk_drew ?_ | refine blk_alloc ?_ _)); refine blk_put (cs := #[.bool false, .slice none 0 0, .slice none 0 0, .slice none 0 0]) ?_ 3 _ rfl; (with_reducible repeat (first | refine blk_drewN ?_ _ | refine blk_drew ?_ | refine blk_alloc ?_ _)); refine blk_put (cs := #[.bool false, .slice none 0 0, .slice none 0 0, .slice none 0 0]) ?_ 2 _ rfl; (with_reducible repeat (first | refine blk_drewN ?_ _ | refine blk_drew ?_ | refine blk_alloc ?_ _)); refine blk_put (cs := #[.bool false, .slice none 0 0, .slice none 0 0, .slice none 0 0]) ?_ 1 _ rfl; (with_reducible repeat (first | refine blk_drewN ?_ _ | refine blk_drew ?_ | refine blk_alloc ?_ _)); refine blk_put (cs := #[.bool false, .slice none 0 0, .slice none 0 0, .slice none 0 0]) ?_ 0 _ rfl; (with_reducible repeat (first | refine blk_drewN ?_ _ | refine blk_drew ?_ | refine blk_alloc ?_ _)); exact BK173.out) Try.underlying25 rfl (by kernel_rfl)) rfl ?_
                exact ⟨_, _, _, by first | rfl | (simp [errW_none, errW_some] <;> rfl) | (simp [*, errW_none, errW_some] <;> rfl), by first | exact Kd.R_nil _ _ _ _ _ | exact Kd.N_nil _ _ _ _ _ | exact Kd.V_nil _ _ _ _ _ | exact Kd.Q_nil _ _ _ _ _ | exact Kd.S_nil _ _ _ _ _, by first | exact Kd.R_nil _ _ _ _ _ | exact Kd.N_nil _ _ _ _ _ | exact Kd.V_nil _ _ _ _ _ | exact Kd.Q_nil _ _ _ _ _ | exact Kd.S_nil _ _ _ _ _, by first | exact Kd.R_nil _ _ _ _ _ | exact Kd.N_nil _ _ _ _ _ | exact Kd.V_nil _ _ _ _ _ | exact Kd.Q_nil _ _ _ _ _ | exact Kd.S_nil _ _ _ _ _, by repeat (first | (with_reducible first | exact HB.out | apply below_alloc | apply pw_below_drewN | apply below_drew1 | refine below_set ?_ (IsS51.ge HI177.out) | refine below_set ?_ GE173.out | refine below_set ?_ GE184.out) | exact HB.out)⟩
              · replace c78 := Bool.eq_false_iff.mpr c78
                subst c78
                have H1 : (if t194 = 0 then (if (strOfNums t191).toList = (strOfNums l0).toList then (some ((t178 == 1), x185001_2, x185002_2, x185003_2, 0)) else (some (false, ([] : List ByteArray), ([] : List ByteArray), ([] : List Int), 200))) else (some (false, ([] : List ByteArray), ([] : List ByteArray), ([] : List Int), 200))) = some (r1, r2, r3, r4, r5) := by rw [if_neg (show ¬ (false = true) by decide)] at H; exact H
                clear H
                have H := H1
                clear H1
                by_cases c89 : t194 = 0
                · rw [if_pos c89] at H
                  have c89b0 : (t194 == 0) = true := beq_iff_eq.mpr c89
                  have c89b1 : (t194 != 0) = false := bne_eq_false_iff_eq.mpr c89
                  clear c89
                  by_cases c90 : (strOfNums t191).toList = (strOfNums l0).toList
                  · rw [if_pos c90] at H
                    have c90b0 : ((strOfNums t191).toList == (strOfNums l0).toList) = true := beq_iff_eq.mpr c90
                    have c90b1 : ((strOfNums t191).toList != (strOfNums l0).toList) = false := bne_eq_false_iff_eq.mpr c90
                    clear c90
                    simp only [Option.some.injEq, Prod.mk.injEq] at H
                    obtain ⟨rfl, rfl, rfl, rfl, rfl⟩ := H
                    have hnb91 := NB184_173.out
                    have hnc91 := NB173_184.out
                    have hnb92 := NB184_177.out
                    have hnc92 := NB177_184.out
                    have hcz93_0 : wr.cell? ⟨gb184, 0, none⟩ = some (.bool (t178 == 1)) := (blk_cell BK184.out 0).trans rfl
                    have hcz93_1 : wr.cell? ⟨gb184, 1, none⟩ = some (u185001) := (blk_cell BK184.out 1).trans rfl
                    have hcz93_2 : wr.cell? ⟨gb184, 2, none⟩ = some (u185002) := (blk_cell BK184.out 2).trans rfl
                    have hcz93_3 : wr.cell? ⟨gb184, 3, none⟩ = some (u185003) := (blk_cell BK184.out 3).trans rfl
                    have hfz93_0 := blk_frozen BK184.out 0
                    have hfz93_1 := blk_frozen BK184.out 1
                    have hfz93_2 := blk_frozen BK184.out 2
                    have hfz93_3 := blk_frozen BK184.out 3
                    obtain ⟨Ao94, co94, eo94⟩ := Kd.R_slice HO_185001.out
                    subst eo94
                    obtain ⟨Ao95, co95, eo95⟩ := Kd.R_slice HO_185002.out
                    subst eo95
                    obtain ⟨Ao96, co96, eo96⟩ := Kd.R_slice HO_185003.out
                    subst eo96
                    go_wp2_with (first | ((with_reducible refine gate_callee (f := 31) rfl ?_); refine goesL_ (some 78) rfl rfl Try.func31 (by kernel_rfl) rfl #[.agg #[.bool (t178 == 1), .slice Ao94 x185001_2.length co94, .slice Ao95 x185002_2.length co95, .slice Ao96 x185003_2.length co96]] rfl (by (try simp only [List.map_toArray, List.map_cons, List.map_nil]); first | done | rfl | (simp only [List.length_drop, List.length_take]; rfl)) ?_; (with_reducible refine (node_put.calls k2 (t178 == 1) _ _ x185001_2 _ _ x185002_2 _ _ x185003_2 t191 t194 _ ?side1 ?side2 ?side3 ?side4 ?side5 ?side6 A77.out).mono ?_); (case side1 => repeat (first | exact (Kd.R_reads' HO_185001.out).2.2 | (with_reducible refine Kd.C_alloc ?_ _) | (with_reducible refine Kd.C_drewN ?_ _) | (with_reducible refine Kd.C_drew ?_))); (case side2 => exact (Kd.R_reads' HO_185001.out).2.1); (case side3 => repeat (first | exact (Kd.R_reads' HO_185002.out).2.2 | (with_reducible refine Kd.C_alloc ?_ _) | (with_reducible refine Kd.C_drewN ?_ _) | (with_reducible refine Kd.C_drew ?_))); (case side4 => exact (Kd.R_reads' HO_185002.out).2.1); (case side5 => repeat (first | exact (Kd.R_reads' HO_185003.out).2.2 | (with_reducible refine Kd.C_alloc ?_ _) | (with_reducible refine Kd.C_drewN ?_ _) | (with_reducible refine Kd.C_drew ?_))); (case side6 => exact (Kd.R_reads' HO_185003.out).2.1); rintro e w97 ⟨v192, rfl, ho0, hb⟩; refine ⟨_, rfl, ?_⟩; have n0_ := Aside0.mk (Kd.R_below (by (with_reducible repeat (first | apply Kd.R_alloc | apply Kd.R_drewN | apply Kd.R_drew)); exact HO_185001.out) hb); have n1_ := Aside0.mk (Kd.R_below (by (with_reducible repeat (first | apply Kd.R_alloc | apply Kd.R_drewN | apply Kd.R_drew)); exact HO_185002.out) hb); have n2_ := Aside0.mk (Kd.R_below (by (with_reducible repeat (first | apply Kd.R_alloc | apply Kd.R_drewN | apply Kd.R_drew)); exact HO_185003.out) hb); have n3_ := Aside0.mk (Kd.R_lower ho0 (below_size (by repeat (first | (with_reducible first | exact HB.out | apply below_alloc | apply pw_below_drewN | apply below_drew1 | refine below_set ?_ (IsS51.ge HI177.out) | refine below_set ?_ GE173.out | refine below_set ?_ GE184.out) | exact HB.out)))); have n4_ := Aside0.mk (blk_below (g := gb173) (o := .cells #[.bool false, .slice none 0 0, .slice none 0 0, .slice none 0 0] 25 (0, 0)) (by (with_reducible repeat (first | refine blk_drewN ?_ _ | refine blk_drew ?_ | refine blk_alloc ?_ _)); exact BK173.out) hb); have n5_ := Aside0.mk (blk_below (g := gb184) (o := .cells #[.bool (t178 == 1), .slice Ao94 x185001_2.length co94, .slice Ao95 x185002_2.length co95, .slice Ao96 x185003_2.length co96] 25 (0, 0)) (by (with_reducible repeat (first | refine blk_drewN ?_ _ | refine blk_drew ?_ | refine blk_alloc ?_ _)); exact BK184.out) hb); have n6_ := Aside0.mk (IsS51.below (by repeat (first | (with_reducible first | exact HI177.out | apply IsS51.alloc | apply IsS51.drewN | apply IsS51.drew | apply IsS51.set_1 | apply IsS51.set_2 | refine IsS51.far ?_ NB177_173.out _ | refine IsS51.far ?_ NB177_184.out _) | exact HI177.out)) hb); have n7_ := Aside0.mk (below_step (by repeat (first | (with_reducible first | exact HB.out | apply below_alloc | apply pw_below_drewN | apply below_drew1 | refine below_set ?_ (IsS51.ge HI177.out) | refine below_set ?_ GE173.out | refine below_set ?_ GE184.out) | exact HB.out)) hb); clear HO_185001; clear HO_185002; clear HO_185003; clear BK173; clear BK184; clear HI177; clear HB; have HO_185001 := n0_; have HO_185002 := n1_; have HO_185003 := n2_; have HO193 := n3_; have BK173 := n4_; have BK184 := n5_; have HI177 := n6_; have HB := n7_; clear n0_ n1_ n2_ n3_ n4_ n5_ n6_ n7_; (try clear hb); (try clear hb2); (try clear hk); (try clear hi); (try clear ho0); obtain ⟨ASz98_0, cSz98_0, ja_, jb_, jc_, jd_, HGz98, hgz98, HSz98_0⟩ := HI177.out; clear ja_ jb_ jc_ jd_ HSz98_0; have hcz98_0 := cellS51_0 HGz98; have hcz98_1 := cellS51_1 HGz98; have hcz98_2 := cellS51_2 HGz98; have hfz98_1 := blk_frozen HGz98 1; have hfz98_2 := blk_frozen HGz98 2; clear HGz98 hgz98; have hcv99 := own_string (P := Try.prog) Try.underlying31 Try.underlying5 Try.underlying9 (Kd.own_of_R HO193.out); have hcv100 := Kd.C_string (P := Try.prog) (A := A0) (c := c0) Try.underlying31 Try.underlying5 Try.underlying9 (Kd.C_below HR0.out HB.out); have hcz101_0 : w97.cell? ⟨gb184, 0, none⟩ = some (.bool (t178 == 1)) := (blk_cell BK184.out 0).trans rfl; have hcz101_1 : w97.cell? ⟨gb184, 1, none⟩ = some (.slice Ao94 x185001_2.length co94) := (blk_cell BK184.out 1).trans rfl; have hcz101_2 : w97.cell? ⟨gb184, 2, none⟩ = some (.slice Ao95 x185002_2.length co95) := (blk_cell BK184.out 2).trans rfl; have hcz101_3 : w97.cell? ⟨gb184, 3, none⟩ = some (.slice Ao96 x185003_2.length co96) := (blk_cell BK184.out 3).trans rfl; have hfz101_0 := blk_frozen BK184.out 0; have hfz101_1 := blk_frozen BK184.out 1; have hfz101_2 := blk_frozen BK184.out 2; have hfz101_3 := blk_frozen BK184.out 3; have hnb102 := NB173_177.out; have hnc102 := NB177_173.out; have hcz103_0 : w97.cell? ⟨gb173, 0, none⟩ = some (.bool false) := (blk_cell BK173.out 0).trans rfl; have hcz103_1 : w97.cell? ⟨gb173, 1, none⟩ = some (.slice none 0 0) := (blk_cell BK173.out 1).trans rfl; have hcz103_2 : w97.cell? ⟨gb173, 2, none⟩ = some (.slice none 0 0) := (blk_cell BK173.out 2).trans rfl; have hcz103_3 : w97.cell? ⟨gb173, 3, none⟩ = some (.slice none 0 0) := (blk_cell BK173.out 3).trans rfl; have hfz103_0 := blk_frozen BK173.out 0; have hfz103_1 := blk_frozen BK173.out 1; have hfz103_2 := blk_frozen BK173.out 2; have hfz103_3 := blk_frozen BK173.out 3))
                    refine bodyPost_ret (results_ct rfl _ _ gb173 25 #[.bool (t178 == 1), .slice Ao94 x185001_2.length co94, .slice Ao95 x185002_2.length co95, .slice Ao96 x185003_2.length co96] (0, 0) _ rfl (by (with_reducible repeat (first | refine blk_drewN ?_ _ | refine blk_drew ?_ | refine blk_alloc ?_ _)); refine blk_put (cs := #[.bool (t178 == 1), .slice Ao94 x185001_2.length co94, .slice Ao95 x185002_2.length co95, .slice none 0 0]) ?_ 3 _ rfl; (with_reducible repeat (first | refine blk_drewN ?_ _ | refine blk_drew ?_ | refine blk_alloc ?_ _)); refine blk_put (cs := #[.bool (t178 == 1), .slice Ao94 x185001_2.length co94, .slice none 0 0, .slice none 0 0]) ?_ 2 _ rfl; (with_reducible repeat (first | refine blk_drewN ?_ _ | refine blk_drew ?_ | refine blk_alloc ?_ _)); refine blk_put (cs := #[.bool (t178 == 1), .slice none 0 0, .slice none 0 0, .slice none 0 0]) ?_ 1 _ rfl; (with_reducible repeat (first | refine blk_drewN ?_ _ | refine blk_drew ?_ | refine blk_alloc ?_ _)); refine blk_put (cs := #[.bool false, .slice none 0 0, .slice none 0 0, .slice none 0 0]) ?_ 0 _ rfl; (with_reducible repeat (first | refine blk_drewN ?_ _ | refine blk_drew ?_ | refine blk_alloc ?_ _)); exact BK173.out) Try.underlying25 rfl (by kernel_rfl)) rfl ?_
                    exact ⟨_, _, _, by first | rfl | (simp [errW_none, errW_some] <;> rfl) | (simp [*, errW_none, errW_some] <;> rfl), by (with_reducible repeat (first | apply Kd.R_alloc | apply Kd.R_drewN | apply Kd.R_drew)); exact Kd.R_mono (Kd.R_far (p := ⟨gb173, 3, none⟩) (Kd.R_far (p := ⟨gb173, 2, none⟩) (Kd.R_far (p := ⟨gb173, 1, none⟩) (Kd.R_far (p := ⟨gb173, 0, none⟩) (Kd.R_types HO_185001.out BK173.out (by decide)) (fun _ hk => hk.2) (.bool (t178 == 1))) (fun _ hk => hk.2) (.slice Ao94 x185001_2.length co94)) (fun _ hk => hk.2) (.slice Ao95 x185002_2.length co95)) (fun _ hk => hk.2) (.slice Ao96 x185003_2.length co96)) (fun _ hk => hk.1), by (with_reducible repeat (first | apply Kd.R_alloc | apply Kd.R_drewN | apply Kd.R_drew)); exact Kd.R_mono (Kd.R_far (p := ⟨gb173, 3, none⟩) (Kd.R_far (p := ⟨gb173, 2, none⟩) (Kd.R_far (p := ⟨gb173, 1, none⟩) (Kd.R_far (p := ⟨gb173, 0, none⟩) (Kd.R_types HO_185002.out BK173.out (by decide)) (fun _ hk => hk.2) (.bool (t178 == 1))) (fun _ hk => hk.2) (.slice Ao94 x185001_2.length co94)) (fun _ hk => hk.2) (.slice Ao95 x185002_2.length co95)) (fun _ hk => hk.2) (.slice Ao96 x185003_2.length co96)) (fun _ hk => hk.1), by (with_reducible repeat (first | apply Kd.R_alloc | apply Kd.R_drewN | apply Kd.R_drew)); exact Kd.R_mono (Kd.R_far (p := ⟨gb173, 3, none⟩) (Kd.R_far (p := ⟨gb173, 2, none⟩) (Kd.R_far (p := ⟨gb173, 1, none⟩) (Kd.R_far (p := ⟨gb173, 0, none⟩) (Kd.R_types HO_185003.out BK173.out (by decide)) (fun _ hk => hk.2) (.bool (t178 == 1))) (fun _ hk => hk.2) (.slice Ao94 x185001_2.length co94)) (fun _ hk => hk.2) (.slice Ao95 x185002_2.length co95)) (fun _ hk => hk.2) (.slice Ao96 x185003_2.length co96)) (fun _ hk => trivial), by repeat (first | (with_reducible first | exact HB.out | apply below_alloc | apply pw_below_drewN | apply below_drew1 | refine below_set ?_ (IsS51.ge HI177.out) | refine below_set ?_ GE173.out | refine below_set ?_ GE184.out) | exact HB.out)⟩
                  · rw [if_neg c90] at H
                    have c90b0 : ((strOfNums t191).toList == (strOfNums l0).toList) = false := beq_eq_false_iff_ne.mpr c90
                    have c90b1 : ((strOfNums t191).toList != (strOfNums l0).toList) = true := bne_iff_ne.mpr c90
                    simp only [Option.some.injEq, Prod.mk.injEq] at H
                    obtain ⟨rfl, rfl, rfl, rfl, rfl⟩ := H
                    have hnb104 := NB184_173.out
                    have hnc104 := NB173_184.out
                    have hnb105 := NB184_177.out
                    have hnc105 := NB177_184.out
                    have hcz106_0 : wr.cell? ⟨gb184, 0, none⟩ = some (.bool (t178 == 1)) := (blk_cell BK184.out 0).trans rfl
                    have hcz106_1 : wr.cell? ⟨gb184, 1, none⟩ = some (u185001) := (blk_cell BK184.out 1).trans rfl
                    have hcz106_2 : wr.cell? ⟨gb184, 2, none⟩ = some (u185002) := (blk_cell BK184.out 2).trans rfl
                    have hcz106_3 : wr.cell? ⟨gb184, 3, none⟩ = some (u185003) := (blk_cell BK184.out 3).trans rfl
                    have hfz106_0 := blk_frozen BK184.out 0
                    have hfz106_1 := blk_frozen BK184.out 1
                    have hfz106_2 := blk_frozen BK184.out 2
                    have hfz106_3 := blk_frozen BK184.out 3
                    obtain ⟨Ao107, co107, eo107⟩ := Kd.R_slice HO_185001.out
                    subst eo107
                    obtain ⟨Ao108, co108, eo108⟩ := Kd.R_slice HO_185002.out
                    subst eo108
                    obtain ⟨Ao109, co109, eo109⟩ := Kd.R_slice HO_185003.out
                    subst eo109
                    go_wp2_with (first | ((with_reducible refine gate_callee (f := 31) rfl ?_); refine goesL_ (some 78) rfl rfl Try.func31 (by kernel_rfl) rfl #[.agg #[.bool (t178 == 1), .slice Ao107 x185001_2.length co107, .slice Ao108 x185002_2.length co108, .slice Ao109 x185003_2.length co109]] rfl (by (try simp only [List.map_toArray, List.map_cons, List.map_nil]); first | done | rfl | (simp only [List.length_drop, List.length_take]; rfl)) ?_; (with_reducible refine (node_put.calls k2 (t178 == 1) _ _ x185001_2 _ _ x185002_2 _ _ x185003_2 t191 t194 _ ?side1 ?side2 ?side3 ?side4 ?side5 ?side6 A77.out).mono ?_); (case side1 => repeat (first | exact (Kd.R_reads' HO_185001.out).2.2 | (with_reducible refine Kd.C_alloc ?_ _) | (with_reducible refine Kd.C_drewN ?_ _) | (with_reducible refine Kd.C_drew ?_))); (case side2 => exact (Kd.R_reads' HO_185001.out).2.1); (case side3 => repeat (first | exact (Kd.R_reads' HO_185002.out).2.2 | (with_reducible refine Kd.C_alloc ?_ _) | (with_reducible refine Kd.C_drewN ?_ _) | (with_reducible refine Kd.C_drew ?_))); (case side4 => exact (Kd.R_reads' HO_185002.out).2.1); (case side5 => repeat (first | exact (Kd.R_reads' HO_185003.out).2.2 | (with_reducible refine Kd.C_alloc ?_ _) | (with_reducible refine Kd.C_drewN ?_ _) | (with_reducible refine Kd.C_drew ?_))); (case side6 => exact (Kd.R_reads' HO_185003.out).2.1); rintro e w110 ⟨v192, rfl, ho0, hb⟩; refine ⟨_, rfl, ?_⟩; have n0_ := Aside0.mk (Kd.R_below (by (with_reducible repeat (first | apply Kd.R_alloc | apply Kd.R_drewN | apply Kd.R_drew)); exact HO_185001.out) hb); have n1_ := Aside0.mk (Kd.R_below (by (with_reducible repeat (first | apply Kd.R_alloc | apply Kd.R_drewN | apply Kd.R_drew)); exact HO_185002.out) hb); have n2_ := Aside0.mk (Kd.R_below (by (with_reducible repeat (first | apply Kd.R_alloc | apply Kd.R_drewN | apply Kd.R_drew)); exact HO_185003.out) hb); have n3_ := Aside0.mk (Kd.R_lower ho0 (below_size (by repeat (first | (with_reducible first | exact HB.out | apply below_alloc | apply pw_below_drewN | apply below_drew1 | refine below_set ?_ (IsS51.ge HI177.out) | refine below_set ?_ GE173.out | refine below_set ?_ GE184.out) | exact HB.out)))); have n4_ := Aside0.mk (blk_below (g := gb173) (o := .cells #[.bool false, .slice none 0 0, .slice none 0 0, .slice none 0 0] 25 (0, 0)) (by (with_reducible repeat (first | refine blk_drewN ?_ _ | refine blk_drew ?_ | refine blk_alloc ?_ _)); exact BK173.out) hb); have n5_ := Aside0.mk (blk_below (g := gb184) (o := .cells #[.bool (t178 == 1), .slice Ao107 x185001_2.length co107, .slice Ao108 x185002_2.length co108, .slice Ao109 x185003_2.length co109] 25 (0, 0)) (by (with_reducible repeat (first | refine blk_drewN ?_ _ | refine blk_drew ?_ | refine blk_alloc ?_ _)); exact BK184.out) hb); have n6_ := Aside0.mk (IsS51.below (by repeat (first | (with_reducible first | exact HI177.out | apply IsS51.alloc | apply IsS51.drewN | apply IsS51.drew | apply IsS51.set_1 | apply IsS51.set_2 | refine IsS51.far ?_ NB177_173.out _ | refine IsS51.far ?_ NB177_184.out _) | exact HI177.out)) hb); have n7_ := Aside0.mk (below_step (by repeat (first | (with_reducible first | exact HB.out | apply below_alloc | apply pw_below_drewN | apply below_drew1 | refine below_set ?_ (IsS51.ge HI177.out) | refine below_set ?_ GE173.out | refine below_set ?_ GE184.out) | exact HB.out)) hb); clear HO_185001; clear HO_185002; clear HO_185003; clear BK173; clear BK184; clear HI177; clear HB; have HO_185001 := n0_; have HO_185002 := n1_; have HO_185003 := n2_; have HO193 := n3_; have BK173 := n4_; have BK184 := n5_; have HI177 := n6_; have HB := n7_; clear n0_ n1_ n2_ n3_ n4_ n5_ n6_ n7_; (try clear hb); (try clear hb2); (try clear hk); (try clear hi); (try clear ho0); obtain ⟨ASz111_0, cSz111_0, ja_, jb_, jc_, jd_, HGz111, hgz111, HSz111_0⟩ := HI177.out; clear ja_ jb_ jc_ jd_ HSz111_0; have hcz111_0 := cellS51_0 HGz111; have hcz111_1 := cellS51_1 HGz111; have hcz111_2 := cellS51_2 HGz111; have hfz111_1 := blk_frozen HGz111 1; have hfz111_2 := blk_frozen HGz111 2; clear HGz111 hgz111; have hcv112 := own_string (P := Try.prog) Try.underlying31 Try.underlying5 Try.underlying9 (Kd.own_of_R HO193.out); have hcv113 := Kd.C_string (P := Try.prog) (A := A0) (c := c0) Try.underlying31 Try.underlying5 Try.underlying9 (Kd.C_below HR0.out HB.out); have hnb114 := NB173_177.out; have hnc114 := NB177_173.out; have hcz115_0 : w110.cell? ⟨gb173, 0, none⟩ = some (.bool false) := (blk_cell BK173.out 0).trans rfl; have hcz115_1 : w110.cell? ⟨gb173, 1, none⟩ = some (.slice none 0 0) := (blk_cell BK173.out 1).trans rfl; have hcz115_2 : w110.cell? ⟨gb173, 2, none⟩ = some (.slice none 0 0) := (blk_cell BK173.out 2).trans rfl; have hcz115_3 : w110.cell? ⟨gb173, 3, none⟩ = some (.slice none 0 0) := (blk_cell BK173.out 3).trans rfl; have hfz115_0 := blk_frozen BK173.out 0; have hfz115_1 := blk_frozen BK173.out 1; have hfz115_2 := blk_frozen BK173.out 2; have hfz115_3 := blk_frozen BK173.out 3))
                    refine bodyPost_ret (results_ct rfl _ _ gb173 25 #[.bool false, .slice none 0 0, .slice none 0 0, .slice none 0 0] (0, 0) _ rfl (by (with_reducible repeat (first | refine blk_drewN ?_ _ | refine blk_drew ?_ | refine blk_alloc ?_ _)); refine blk_put (cs := #[.bool false, .slice none 0 0, .slice none 0 0, .slice none 0 0]) ?_ 3 _ rfl; (with_reducible repeat (first | refine blk_drewN ?_ _ | refine blk_drew ?_ | refine blk_alloc ?_ _)); refine blk_put (cs := #[.bool false, .slice none 0 0, .slice none 0 0, .slice none 0 0]) ?_ 2 _ rfl; (with_reducible repeat (first | refine blk_drewN ?_ _ | refine blk_drew ?_ | refine blk_alloc ?_ _)); refine blk_put (cs := #[.bool false, .slice none 0 0, .slice none 0 0, .slice none 0 0]) ?_ 1 _ rfl; (with_reducible repeat (first | refine blk_drewN ?_ _ | refine blk_drew ?_ | refine blk_alloc ?_ _)); refine blk_put (cs := #[.bool false, .slice none 0 0, .slice none 0 0, .slice none 0 0]) ?_ 0 _ rfl; (with_reducible repeat (first | refine blk_drewN ?_ _ | refine blk_drew ?_ | refine blk_alloc ?_ _)); exact BK173.out) Try.underlying25 rfl (by kernel_rfl)) rfl ?_
                    exact ⟨_, _, _, by first | rfl | (simp [errW_none, errW_some] <;> rfl) | (simp [*, errW_none, errW_some] <;> rfl), by first | exact Kd.R_nil _ _ _ _ _ | exact Kd.N_nil _ _ _ _ _ | exact Kd.V_nil _ _ _ _ _ | exact Kd.Q_nil _ _ _ _ _ | exact Kd.S_nil _ _ _ _ _, by first | exact Kd.R_nil _ _ _ _ _ | exact Kd.N_nil _ _ _ _ _ | exact Kd.V_nil _ _ _ _ _ | exact Kd.Q_nil _ _ _ _ _ | exact Kd.S_nil _ _ _ _ _, by first | exact Kd.R_nil _ _ _ _ _ | exact Kd.N_nil _ _ _ _ _ | exact Kd.V_nil _ _ _ _ _ | exact Kd.Q_nil _ _ _ _ _ | exact Kd.S_nil _ _ _ _ _, by repeat (first | (with_reducible first | exact HB.out | apply below_alloc | apply pw_below_drewN | apply below_drew1 | refine below_set ?_ (IsS51.ge HI177.out) | refine below_set ?_ GE173.out | refine below_set ?_ GE184.out) | exact HB.out)⟩
                · rw [if_neg c89] at H
                  have c89b0 : (t194 == 0) = false := beq_eq_false_iff_ne.mpr c89
                  have c89b1 : (t194 != 0) = true := bne_iff_ne.mpr c89
                  simp only [Option.some.injEq, Prod.mk.injEq] at H
                  obtain ⟨rfl, rfl, rfl, rfl, rfl⟩ := H
                  have hnb116 := NB184_173.out
                  have hnc116 := NB173_184.out
                  have hnb117 := NB184_177.out
                  have hnc117 := NB177_184.out
                  have hcz118_0 : wr.cell? ⟨gb184, 0, none⟩ = some (.bool (t178 == 1)) := (blk_cell BK184.out 0).trans rfl
                  have hcz118_1 : wr.cell? ⟨gb184, 1, none⟩ = some (u185001) := (blk_cell BK184.out 1).trans rfl
                  have hcz118_2 : wr.cell? ⟨gb184, 2, none⟩ = some (u185002) := (blk_cell BK184.out 2).trans rfl
                  have hcz118_3 : wr.cell? ⟨gb184, 3, none⟩ = some (u185003) := (blk_cell BK184.out 3).trans rfl
                  have hfz118_0 := blk_frozen BK184.out 0
                  have hfz118_1 := blk_frozen BK184.out 1
                  have hfz118_2 := blk_frozen BK184.out 2
                  have hfz118_3 := blk_frozen BK184.out 3
                  obtain ⟨Ao119, co119, eo119⟩ := Kd.R_slice HO_185001.out
                  subst eo119
                  obtain ⟨Ao120, co120, eo120⟩ := Kd.R_slice HO_185002.out
                  subst eo120
                  obtain ⟨Ao121, co121, eo121⟩ := Kd.R_slice HO_185003.out
                  subst eo121
                  go_wp2_with (first | ((with_reducible refine gate_callee (f := 31) rfl ?_); refine goesL_ (some 78) rfl rfl Try.func31 (by kernel_rfl) rfl #[.agg #[.bool (t178 == 1), .slice Ao119 x185001_2.length co119, .slice Ao120 x185002_2.length co120, .slice Ao121 x185003_2.length co121]] rfl (by (try simp only [List.map_toArray, List.map_cons, List.map_nil]); first | done | rfl | (simp only [List.length_drop, List.length_take]; rfl)) ?_; (with_reducible refine (node_put.calls k2 (t178 == 1) _ _ x185001_2 _ _ x185002_2 _ _ x185003_2 t191 t194 _ ?side1 ?side2 ?side3 ?side4 ?side5 ?side6 A77.out).mono ?_); (case side1 => repeat (first | exact (Kd.R_reads' HO_185001.out).2.2 | (with_reducible refine Kd.C_alloc ?_ _) | (with_reducible refine Kd.C_drewN ?_ _) | (with_reducible refine Kd.C_drew ?_))); (case side2 => exact (Kd.R_reads' HO_185001.out).2.1); (case side3 => repeat (first | exact (Kd.R_reads' HO_185002.out).2.2 | (with_reducible refine Kd.C_alloc ?_ _) | (with_reducible refine Kd.C_drewN ?_ _) | (with_reducible refine Kd.C_drew ?_))); (case side4 => exact (Kd.R_reads' HO_185002.out).2.1); (case side5 => repeat (first | exact (Kd.R_reads' HO_185003.out).2.2 | (with_reducible refine Kd.C_alloc ?_ _) | (with_reducible refine Kd.C_drewN ?_ _) | (with_reducible refine Kd.C_drew ?_))); (case side6 => exact (Kd.R_reads' HO_185003.out).2.1); rintro e w122 ⟨v192, rfl, ho0, hb⟩; refine ⟨_, rfl, ?_⟩; have n0_ := Aside0.mk (Kd.R_below (by (with_reducible repeat (first | apply Kd.R_alloc | apply Kd.R_drewN | apply Kd.R_drew)); exact HO_185001.out) hb); have n1_ := Aside0.mk (Kd.R_below (by (with_reducible repeat (first | apply Kd.R_alloc | apply Kd.R_drewN | apply Kd.R_drew)); exact HO_185002.out) hb); have n2_ := Aside0.mk (Kd.R_below (by (with_reducible repeat (first | apply Kd.R_alloc | apply Kd.R_drewN | apply Kd.R_drew)); exact HO_185003.out) hb); have n3_ := Aside0.mk (Kd.R_lower ho0 (below_size (by repeat (first | (with_reducible first | exact HB.out | apply below_alloc | apply pw_below_drewN | apply below_drew1 | refine below_set ?_ (IsS51.ge HI177.out) | refine below_set ?_ GE173.out | refine below_set ?_ GE184.out) | exact HB.out)))); have n4_ := Aside0.mk (blk_below (g := gb173) (o := .cells #[.bool false, .slice none 0 0, .slice none 0 0, .slice none 0 0] 25 (0, 0)) (by (with_reducible repeat (first | refine blk_drewN ?_ _ | refine blk_drew ?_ | refine blk_alloc ?_ _)); exact BK173.out) hb); have n5_ := Aside0.mk (blk_below (g := gb184) (o := .cells #[.bool (t178 == 1), .slice Ao119 x185001_2.length co119, .slice Ao120 x185002_2.length co120, .slice Ao121 x185003_2.length co121] 25 (0, 0)) (by (with_reducible repeat (first | refine blk_drewN ?_ _ | refine blk_drew ?_ | refine blk_alloc ?_ _)); exact BK184.out) hb); have n6_ := Aside0.mk (IsS51.below (by repeat (first | (with_reducible first | exact HI177.out | apply IsS51.alloc | apply IsS51.drewN | apply IsS51.drew | apply IsS51.set_1 | apply IsS51.set_2 | refine IsS51.far ?_ NB177_173.out _ | refine IsS51.far ?_ NB177_184.out _) | exact HI177.out)) hb); have n7_ := Aside0.mk (below_step (by repeat (first | (with_reducible first | exact HB.out | apply below_alloc | apply pw_below_drewN | apply below_drew1 | refine below_set ?_ (IsS51.ge HI177.out) | refine below_set ?_ GE173.out | refine below_set ?_ GE184.out) | exact HB.out)) hb); clear HO_185001; clear HO_185002; clear HO_185003; clear BK173; clear BK184; clear HI177; clear HB; have HO_185001 := n0_; have HO_185002 := n1_; have HO_185003 := n2_; have HO193 := n3_; have BK173 := n4_; have BK184 := n5_; have HI177 := n6_; have HB := n7_; clear n0_ n1_ n2_ n3_ n4_ n5_ n6_ n7_; (try clear hb); (try clear hb2); (try clear hk); (try clear hi); (try clear ho0); obtain ⟨ASz123_0, cSz123_0, ja_, jb_, jc_, jd_, HGz123, hgz123, HSz123_0⟩ := HI177.out; clear ja_ jb_ jc_ jd_ HSz123_0; have hcz123_0 := cellS51_0 HGz123; have hcz123_1 := cellS51_1 HGz123; have hcz123_2 := cellS51_2 HGz123; have hfz123_1 := blk_frozen HGz123 1; have hfz123_2 := blk_frozen HGz123 2; clear HGz123 hgz123; have hnb124 := NB173_177.out; have hnc124 := NB177_173.out; have hcz125_0 : w122.cell? ⟨gb173, 0, none⟩ = some (.bool false) := (blk_cell BK173.out 0).trans rfl; have hcz125_1 : w122.cell? ⟨gb173, 1, none⟩ = some (.slice none 0 0) := (blk_cell BK173.out 1).trans rfl; have hcz125_2 : w122.cell? ⟨gb173, 2, none⟩ = some (.slice none 0 0) := (blk_cell BK173.out 2).trans rfl; have hcz125_3 : w122.cell? ⟨gb173, 3, none⟩ = some (.slice none 0 0) := (blk_cell BK173.out 3).trans rfl; have hfz125_0 := blk_frozen BK173.out 0; have hfz125_1 := blk_frozen BK173.out 1; have hfz125_2 := blk_frozen BK173.out 2; have hfz125_3 := blk_frozen BK173.out 3))
                  refine bodyPost_ret (results_ct rfl _ _ gb173 25 #[.bool false, .slice none 0 0, .slice none 0 0, .slice none 0 0] (0, 0) _ rfl (by (with_reducible repeat (first | refine blk_drewN ?_ _ | refine blk_drew ?_ | refine blk_alloc ?_ _)); refine blk_put (cs := #[.bool false, .slice none 0 0, .slice none 0 0, .slice none 0 0]) ?_ 3 _ rfl; (with_reducible repeat (first | refine blk_drewN ?_ _ | refine blk_drew ?_ | refine blk_alloc ?_ _)); refine blk_put (cs := #[.bool false, .slice none 0 0, .slice none 0 0, .slice none 0 0]) ?_ 2 _ rfl; (with_reducible repeat (first | refine blk_drewN ?_ _ | refine blk_drew ?_ | refine blk_alloc ?_ _)); refine blk_put (cs := #[.bool false, .slice none 0 0, .slice none 0 0, .slice none 0 0]) ?_ 1 _ rfl; (with_reducible repeat (first | refine blk_drewN ?_ _ | refine blk_drew ?_ | refine blk_alloc ?_ _)); refine blk_put (cs := #[.bool false, .slice none 0 0, .slice none 0 0, .slice none 0 0]) ?_ 0 _ rfl; (with_reducible repeat (first | refine blk_drewN ?_ _ | refine blk_drew ?_ | refine blk_alloc ?_ _)); exact BK173.out) Try.underlying25 rfl (by kernel_rfl)) rfl ?_
                  exact ⟨_, _, _, by first | rfl | (simp [errW_none, errW_some] <;> rfl) | (simp [*, errW_none, errW_some] <;> rfl), by first | exact Kd.R_nil _ _ _ _ _ | exact Kd.N_nil _ _ _ _ _ | exact Kd.V_nil _ _ _ _ _ | exact Kd.Q_nil _ _ _ _ _ | exact Kd.S_nil _ _ _ _ _, by first | exact Kd.R_nil _ _ _ _ _ | exact Kd.N_nil _ _ _ _ _ | exact Kd.V_nil _ _ _ _ _ | exact Kd.Q_nil _ _ _ _ _ | exact Kd.S_nil _ _ _ _ _, by first | exact Kd.R_nil _ _ _ _ _ | exact Kd.N_nil _ _ _ _ _ | exact Kd.V_nil _ _ _ _ _ | exact Kd.Q_nil _ _ _ _ _ | exact Kd.S_nil _ _ _ _ _, by repeat (first | (with_reducible first | exact HB.out | apply below_alloc | apply pw_below_drewN | apply below_drew1 | refine below_set ?_ (IsS51.ge HI177.out) | refine below_set ?_ GE173.out | refine below_set ?_ GE184.out) | exact HB.out)⟩
  · rw [if_neg c2] at H
    have c2b0 : ((l0.length : Int) == 512) = false := beq_eq_false_iff_ne.mpr c2
    have c2b1 : ((l0.length : Int) != 512) = true := bne_iff_ne.mpr c2
    simp only [Option.some.injEq, Prod.mk.injEq] at H
    obtain ⟨rfl, rfl, rfl, rfl, rfl⟩ := H
    go_enter Try.func13, Try.ntmps13
    go_wp2_with (first | ((with_reducible refine gate_dst (N := 2) rfl ?_); refine box_event ?hg (N := 2) ?hd (cs := #[.bool false, .slice none 0 0, .slice none 0 0, .slice none 0 0]) (t := 25) ?hr ?_; (case hd => rfl); (case hg => rfl); (case hr => first | (go_simp; done) | (go_simp; rfl)); intro gb173 hg w126 hbox hb; have n0_ := Aside0.mk (below_step (by repeat (first | (with_reducible first | exact HB.out | apply below_alloc | apply pw_below_drewN | apply below_drew1) | exact HB.out)) hb); have n1_ := Aside0.mk (hbox); have n2_ := Aside0.mk ((by rw [hg]; exact (below_size (by repeat (first | (with_reducible first | exact HB.out | apply below_alloc | apply pw_below_drewN | apply below_drew1) | exact HB.out))) : w.heap.size ≤ gb173)); have n3_ := Aside0.mk ((by rw [hg]; exact (below_size (by repeat (first | (with_reducible first | exact HB.out | apply below_alloc | apply pw_below_drewN | apply below_drew1) | exact HB.out))) : w.heap.size ≤ gb173)); clear HB; have HB := n0_; have BK173 := n1_; have GW173 := n2_; have GE173 := n3_; clear n0_ n1_ n2_ n3_; clear hb hbox hg; have hcz127_0 : w126.cell? ⟨gb173, 0, none⟩ = some (.bool false) := (blk_cell BK173.out 0).trans rfl; have hcz127_1 : w126.cell? ⟨gb173, 1, none⟩ = some (.slice none 0 0) := (blk_cell BK173.out 1).trans rfl; have hcz127_2 : w126.cell? ⟨gb173, 2, none⟩ = some (.slice none 0 0) := (blk_cell BK173.out 2).trans rfl; have hcz127_3 : w126.cell? ⟨gb173, 3, none⟩ = some (.slice none 0 0) := (blk_cell BK173.out 3).trans rfl; have hfz127_0 := blk_frozen BK173.out 0; have hfz127_1 := blk_frozen BK173.out 1; have hfz127_2 := blk_frozen BK173.out 2; have hfz127_3 := blk_frozen BK173.out 3))
    refine bodyPost_ret (results_ct rfl _ _ gb173 25 #[.bool false, .slice none 0 0, .slice none 0 0, .slice none 0 0] (0, 0) _ rfl (by (with_reducible repeat (first | refine blk_drewN ?_ _ | refine blk_drew ?_ | refine blk_alloc ?_ _)); refine blk_put (cs := #[.bool false, .slice none 0 0, .slice none 0 0, .slice none 0 0]) ?_ 3 _ rfl; (with_reducible repeat (first | refine blk_drewN ?_ _ | refine blk_drew ?_ | refine blk_alloc ?_ _)); refine blk_put (cs := #[.bool false, .slice none 0 0, .slice none 0 0, .slice none 0 0]) ?_ 2 _ rfl; (with_reducible repeat (first | refine blk_drewN ?_ _ | refine blk_drew ?_ | refine blk_alloc ?_ _)); refine blk_put (cs := #[.bool false, .slice none 0 0, .slice none 0 0, .slice none 0 0]) ?_ 1 _ rfl; (with_reducible repeat (first | refine blk_drewN ?_ _ | refine blk_drew ?_ | refine blk_alloc ?_ _)); refine blk_put (cs := #[.bool false, .slice none 0 0, .slice none 0 0, .slice none 0 0]) ?_ 0 _ rfl; (with_reducible repeat (first | refine blk_drewN ?_ _ | refine blk_drew ?_ | refine blk_alloc ?_ _)); exact BK173.out) Try.underlying25 rfl (by kernel_rfl)) rfl ?_
    exact ⟨_, _, _, by first | rfl | (simp [errW_none, errW_some] <;> rfl) | (simp [*, errW_none, errW_some] <;> rfl), by first | exact Kd.R_nil _ _ _ _ _ | exact Kd.N_nil _ _ _ _ _ | exact Kd.V_nil _ _ _ _ _ | exact Kd.Q_nil _ _ _ _ _ | exact Kd.S_nil _ _ _ _ _, by first | exact Kd.R_nil _ _ _ _ _ | exact Kd.N_nil _ _ _ _ _ | exact Kd.V_nil _ _ _ _ _ | exact Kd.Q_nil _ _ _ _ _ | exact Kd.S_nil _ _ _ _ _, by first | exact Kd.R_nil _ _ _ _ _ | exact Kd.N_nil _ _ _ _ _ | exact Kd.V_nil _ _ _ _ _ | exact Kd.Q_nil _ _ _ _ _ | exact Kd.S_nil _ _ _ _ _, by repeat (first | (with_reducible first | exact HB.out | apply below_alloc | apply pw_below_drewN | apply below_drew1 | refine below_set ?_ GE173.out) | exact HB.out)⟩

end Go.Proofs.Ytbpnkgaomobpkaa.PNxu
