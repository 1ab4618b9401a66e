/- The law DiskFlush, walked by hand (written by mkflush.py). -/
import Derived.Test.YtnaegemldpfllaaDisV
namespace Go.Proofs.Ytnaegemldpfllaa.Dis
open Go.RowKit Go.Proofs.YtnaegemldpfllaaW.PrintWords Go.Proofs.YtnaegemldpfllaaW.PrintLast Go.Proofs.YtnaegemldpfllaaW.PrintMore Go.Maps
set_option linter.unusedVariables false
set_option linter.unusedSimpArgs false
def wantC (m : Nat → ByteArray) : Array Value := #[.string (m 0), .string (m 1), .string (m 2), .string (m 3), .string (m 4), .string (m 5), .string (m 6), .string (m 7)]
theorem wantC_at (m : Nat → ByteArray) (j : Nat) (hj : j < 8) : (wantC m)[j]? = some (.string (m j)) := by
  have : j = 0 ∨ j = 1 ∨ j = 2 ∨ j = 3 ∨ j = 4 ∨ j = 5 ∨ j = 6 ∨ j = 7 := by omega
  rcases this with rfl | rfl | rfl | rfl | rfl | rfl | rfl | rfl <;> rfl
theorem wantC_set (m : Nat → ByteArray) (k : Nat) (hk : k < 8) (s : ByteArray) : (wantC m).setIfInBounds k (.string s) = wantC (fun j => if j = k then s else m j) := by
  apply Array.ext
  · simp [wantC]
  · intro i h1 h2
    have hi : i < 8 := by simpa [wantC] using h2
    have e2 := wantC_at (fun j => if j = k then s else m j) i hi
    have e1 := wantC_at m i hi
    rw [Array.getElem?_eq_getElem h2] at e2
    have h3 : i < (wantC m).size := by simpa [wantC] using hi
    rw [Array.getElem?_eq_getElem h3] at e1
    rw [Array.getElem_setIfInBounds h3]
    injection e1 with e1
    injection e2 with e2
    rw [e2]
    by_cases hik : k = i
    · rw [if_pos hik, if_pos hik.symm]
    · rw [if_neg hik, if_neg (fun e => hik e.symm), e1]
def zerosTo (k : Nat) : Nat → ByteArray := fun j => if j < k then strOfNums zeros else ByteArray.empty
theorem zerosTo_set (k : Nat) : (fun j => if j = k then strOfNums zeros else zerosTo k j) = zerosTo (k + 1) := by
  funext j
  unfold zerosTo
  by_cases h : j = k
  · rw [if_pos h, if_pos (by omega)]
  · rw [if_neg h]
    by_cases h2 : j < k
    · rw [if_pos h2, if_pos (by omega)]
    · rw [if_neg h2, if_neg (by omega)]
def wantF (f : Int → List Int) : Array Value := wantC (fun j => strOfNums (f (j : Int)))
theorem wantF_at (f : Int → List Int) (j : Nat) (hj : j < 8) : (wantF f)[j]? = some (.string (strOfNums (f (j : Int)))) := wantC_at _ j hj
theorem zerosTo8 : wantC (zerosTo 8) = wantF (fun _ => zeros) := by
  unfold wantF wantC zerosTo
  rfl
theorem wantF_set (f : Int → List Int) (j : Nat) (hj : j < 8) (p : List Int) : (wantF f).setIfInBounds j (.string (strOfNums p)) = wantF (upd f ((j : Int), p)) := by
  unfold wantF
  rw [wantC_set _ j hj]
  congr 1
  funext i
  unfold upd
  by_cases h : i = j
  · rw [if_pos h, if_pos (by rw [h])]
  · rw [if_neg h, if_neg (fun e => h (by have e' : (i : Int) = (j : Int) := e; omega))]
def wr1 (a : Act_) : Int × List Int := (and7 a.2.1, pad (a.2.2.1.take 512))
def wf (l : List Act_) : Int → List Int := (l.map wr1).foldl upd (fun _ => zeros)
theorem wf_take (l : List Act_) (k : Nat) (hk : k < l.length) : wf (l.take (k + 1)) = upd (wf (l.take k)) (wr1 (l.getD k act0)) := by
  unfold wf
  rw [take_next l k hk, List.map_append, List.foldl_append]
  rfl
theorem kept_all (l : List (Int × List Int)) (f : Int → List Int) : ∀ k, k ≤ l.length → keptTo (fun _ => true) l f k = (l.take k).foldl upd f
  | 0, _ => by simp [keptTo]
  | k + 1, hk => by
    have e : l.take (k + 1) = l.take k ++ [l.getD k (0, zeros)] := by
      rw [List.getD_eq_getElem?_getD, List.getElem?_eq_getElem (show k < l.length by omega)]
      exact (List.take_append_getElem (show k < l.length by omega)).symm
    rw [e, List.foldl_append]
    unfold keptTo
    rw [if_pos rfl, kept_all l f k (by omega)]
    rfl
theorem puts_since {c : Nat} (l : List Act_) : ∀ {d : D} {c : Nat}, Live d c → (puts d l).since = d.since ++ l.map wr1 ∧ (puts d l).fast = d.fast := by
  induction l with
  | nil => intro d c h; exact ⟨by simp [puts], rfl⟩
  | cons a l ih =>
    intro d c h
    have hp : put1 d a = { d with since := d.since ++ [wr1 a], cnt := d.cnt + 1 } := by unfold put1; rw [write_live h]; rfl
    have hc : puts d (a :: l) = puts (put1 d a) l := rfl
    obtain ⟨h1, h2⟩ := ih (put1_live h a)
    rw [hc, h1, h2, hp]
    exact ⟨by simp, rfl⟩
/-- The disk behind the flush and the crash. -/
def DF (l : List Act_) (keep : List Bool) : D := crashD (keepsD (puts D0 l) (fun _ => true)) keep
theorem D0_fast : D0.fast = fun _ => zeros := by unfold D0; rfl
theorem D0_since : D0.since = [] := by unfold D0; rfl
theorem DF_fast (l : List Act_) (keep : List Bool) : (DF l keep).fast = wf l := by
  show keptTo (kept keep) [] (keptTo (fun _ => true) (puts D0 l).since (puts D0 l).fast (puts D0 l).since.length) 0 = _
  obtain ⟨h1, h2⟩ := puts_since (c := 0) l D0_live
  rw [h1, h2, D0_fast, D0_since, List.nil_append, kept_all _ _ _ (Nat.le_refl _), List.take_length]
  rfl
theorem DF_live (l : List Act_) (keep : List Bool) : Live (DF l keep) l.length := by
  have h := puts_live D0_live l
  rw [Nat.zero_add] at h
  exact ⟨h.n, rfl, rfl, h.cnt⟩
theorem DF_read (l : List Act_) (keep : List Bool) (i : Int) (h0 : 0 ≤ i) (h8 : i < 8) : readD (DF l keep) i = (DF l keep, wf l i, 0) := by
  have hl := DF_live l keep
  have ht : thereD (DF l keep) i = 0 := by
    unfold thereD
    rw [if_neg (by omega), if_neg (by rw [hl.n]; omega)]
  unfold readD
  rw [callD_live hl]
  simp only [ht]
  rw [if_neg (by simp), if_neg (by simp), DF_fast]
  rfl
theorem exec_conv {o : Oper} {a : Act} {W : World} {x : Operand} {v : Value} {s : ByteArray} (ho : o.op = .convert 28 9 x) (hx : a.eval x = v) (hrun : (convert 28 9 v).run Try.prog W = .ok (.string s) W) : (execOp a.eval o).run Try.prog W = .ok (.value (.string s)) W := by
  simp [execOp, ho, hx, hrun]
theorem pad_raw {w : World} {A : Option Addr} {nb c : Nat} {bt : List Int} (hn : nb = bt.length) (h : (Kd.int .u8).C w A (bt ++ List.replicate (512 - (nb : Int)).toNat 0).length (bt ++ List.replicate (512 - (nb : Int)).toNat 0)) : (convert 28 9 (.slice A (bt ++ List.replicate (512 - (nb : Int)).toNat 0).length c)).run Try.prog w = .ok (.string (strOfNums (pad bt))) w := by
  have e : bt ++ List.replicate (512 - (nb : Int)).toNat 0 = pad bt := by
    unfold pad
    rw [hn, show ((512 : Int) - (bt.length : Int)).toNat = 512 - bt.length by omega]
  rw [e] at h ⊢
  exact bytes_string (c := c) h
theorem zeros_string {w : World} {A : Option Addr} {c : Nat} (h : (Kd.int .u8).C w A zeros.length zeros) : (convert 28 9 (.slice A 512 c)).run Try.prog w = .ok (.string (strOfNums zeros)) w := by
  have := bytes_string (c := c) h
  rwa [sec_zeros.1] at this
theorem R_keepD {W W' : World} {b0 : Nat} {v : Value} {xs : List Int} (h : Kd.R (Kd.int .u8) 5 W b0 (fun _ => True) v xs) (hk : KeepD W W') : Kd.R (Kd.int .u8) 5 W' b0 (fun _ => True) v xs :=
  Kd.R_mono (Kd.R_step (Kd.R_bound h) (fun k ho hlt => by
    obtain ⟨_, _, _, q, hq, cells, hc⟩ := ho
    have hq' : q = 5 := by simpa [Kd.int, Kd.scalar] using hq
    subst hq'
    rw [hc]
    exact hk.2 k _ _ _ hc (by decide) (by decide))) (fun _ _ => trivial)
theorem R_row5 {W : World} {b0 : Nat} {v : Value} {xs : List Int} (h : Kd.R (Kd.int .u8) 5 W b0 (fun _ => True) v xs) (k : Nat) (hk : v.ownBlock = some k) : ∃ cs, W.heap[k]? = some (.cells cs 5 (0, 0)) := by
  obtain ⟨h0, inner, ho, hr⟩ := h
  exact own_typed ho k hk
/-- A step that turns a row of bytes leaves a disk. -/
theorem IsD.grown5 {base g : Nat} {w w' : World} {d : D} {row : Option Nat} (h : IsD base w g d) (hg : w.grownBy w' row) (hr : ∀ k, row = some k → ∃ cs, w.heap[k]? = some (.cells cs 5 (0, 0))) : IsD base w' g d := by
  obtain ⟨hok, b, v, m, hb, hge, hbb, hm, hM, hR⟩ := h
  obtain ⟨es, c, hbt⟩ := map_blk hM
  refine ⟨hok, b, v, m, blk_grown hb hg (fun e => ?_), hge, hbb, hm, hM.kept hg (fun e => ?_), Kd.R_mono (Kd.R_grown (Kd.R_bound hR) hg (fun k hk e => ?_)) (fun _ _ => trivial)⟩
  · obtain ⟨cs, hc⟩ := hr g e.symm
    rw [hb] at hc; injection hc with hc; injection hc with _ ht; exact absurd ht (by decide)
  · obtain ⟨cs, hc⟩ := hr b e.symm
    rw [hbt] at hc; injection hc with hc; cases hc
  · obtain ⟨_, _, _, q, hq, cells, hc⟩ := hk
    have hq' : q = 58 := by simpa [wrK] using hq
    obtain ⟨cs, hc2⟩ := hr k e.symm
    rw [hc] at hc2; injection hc2 with hc2; injection hc2 with _ ht; rw [hq'] at ht; exact absurd ht (by decide)
theorem blk_row5 {w w' : World} {g : Nat} {row : Option Nat} {cs : Array Value} {t : TypeId} (h : w.heap[g]? = some (.cells cs t (0, 0))) (ht : t ≠ 5) (hg : w.grownBy w' row) (hr : ∀ k, row = some k → ∃ cs, w.heap[k]? = some (.cells cs 5 (0, 0))) : w'.heap[g]? = some (.cells cs t (0, 0)) :=
  blk_grown h hg (fun e => by
    obtain ⟨cs', hc⟩ := hr g e.symm
    rw [h] at hc; injection hc with hc; injection hc with _ h5; exact ht h5)
theorem exec_store9 {o : Oper} {a : Act} {W : World} {x v : Operand} {g j : Nat} {s s0 : ByteArray} (ho : o.op = .store 9 x v) (hx : a.eval x = .pointer (some ⟨g, j, none⟩)) (hv : a.eval v = .string s) (hc : W.cell? ⟨g, j, none⟩ = some (.string s0)) (hf : W.frozen? ⟨g, j, none⟩ = false) :
    (execOp a.eval o).run Try.prog W = .ok .skip (W.setCell ⟨g, j, none⟩ (.string s)) := by
  unfold execOp
  rw [ho]
  simp only [hx, hv]
  simp [go_sem, hc, hf]
set_option maxHeartbeats 8000000 in
set_option maxRecDepth 100000 in
theorem flushlaw_calls (w : World) (A1 A2 : Option Addr) (c1 c2 : Nat) (l : List Act_) (l3 : List Bool) (h1 : actK.C w A1 l.length l) (h3 : Kd.C Kd.bool w A2 l3.length l3) (o1 : OkL l) (b1 : l.length ≤ 9223372036854775807) (b3 : l3.length ≤ 140737488355328) :
    Calls Try.prog 4 #[.slice A1 l.length c1, .slice A2 l3.length c2] w fun e w' => e = .returned (.bool true) ∧ Below w.heap.size w w' := by
  have H1 := Aside0.mk h1
  have H3 := Aside0.mk h3
  have O1 := Aside0.mk o1
  have B3 := Aside0.mk b3
  clear h1 h3 o1 b3
  have info5 : (Try.prog.info? 5).map (fun i => (i.zero, i.size, i.bytes)) = some (some (.int .u8 0), 1, 1) := by kernel_rfl
  have INF := Aside0.mk info5
  have info4 : (Try.prog.info? 4).map (fun i => (i.zero, i.size, i.bytes)) = some (some (.bool false), 1, 1) := by kernel_rfl
  have INB := Aside0.mk info4
  clear info5 info4
  obtain ⟨n, hn⟩ : ∃ n, n = l.length := ⟨_, rfl⟩
  rw [← hn] at b1 ⊢
  have N1 := Aside0.mk hn
  clear hn
  go_enter Try.func4, Try.ntmps4
  go_upto_block 0 with (first
    | (go_at_call 8; refine (new_calls 8 w).mono ?_; rintro e w1 ⟨g, rfl, h1, h2, h3⟩; rw [D0q] at h1; have HD := Aside0.mk h1; have HB := Aside0.mk h3; clear h1 h2 h3))
  have HD5 := Aside0.mk (HD.out.below (below_alloc (Below.refl _ _) (.cells (wantC (zerosTo 0)) 33 (0, 0))))
  have HB5 := Aside0.mk (HB.out.alloc HB.out.size (.cells (wantC (zerosTo 0)) 33 (0, 0)))
  have HW5 := Aside0.mk (blk_new w1 (.cells (wantC (zerosTo 0)) 33 (0, 0)))
  have HG5 := Aside0.mk HB.out.size
  obtain ⟨gw, hgw⟩ : ∃ gw, gw = w1.heap.size := ⟨_, rfl⟩
  rw [← hgw] at HW5 HG5 ⊢
  clear hgw HD HB
  go_wp2_with fail
  go_loopw [7] (fun x wr => ∃ k : Nat, k ≤ 8 ∧ x = .int .i64 k ∧ Aside0 (IsD w.heap.size wr g D0) ∧ Aside0 (Below w.heap.size w wr) ∧ Aside0 (wr.heap[gw]? = some (.cells (wantC (zerosTo k)) 33 (0, 0)))) (fun x _ => 8 - (intOf x).toNat)
  case atStart => exact ⟨0, by decide, rfl, HD5, HB5, HW5⟩
  case round =>
    obtain ⟨k, hk, rfl, HDk, HBk, HWk⟩ := hrel
    by_cases hlt : k < 8
    · have e1 : decide ((k : Int) < 8) = true := decide_eq_true (by omega)
      have e2 : decide (k < 8) = true := decide_eq_true hlt
      go_wp2_with (first
        | ((with_reducible refine gate_dst (N := 22) rfl ?_); refine Kd.R_make (Kd.int .u8) (w0 := wr) wr.heap.size 5 rfl (N := 22) rfl 28 _ _ rfl 512 rfl rfl Try.underlying28 (.int .u8 0) 1 INF.out rfl (by decide) (by decide) 0 (ok := fun _ => True) (okp := fun _ => True) ?hz (fun _ h => h) trivial (by decide) (by decide) (Below.refl _ _) (Nat.le_refl _) ?_; (case hz => rfl); intro v3 w3 ho hb _ _; obtain ⟨A3, c3, rfl, _, hC3⟩ := Kd.R_reads ho; have hcv := zeros_string (c := c3) hC3; have HB3 := Aside0.mk hb; have HW3 := Aside0.mk (blk_below HWk.out hb); have cw : w3.cell? ⟨gw, k, none⟩ = some (.string (zerosTo k k)) := (blk_cell HW3.out k).trans (wantC_at _ k hlt); have fw := blk_frozen HW3.out k; clear ho hb hC3))
      go_roundw
      case rel => exact ⟨k + 1, by omega, by go_num, ⟨(HDk.out.below HB3.out).far HW3.out _⟩, ⟨(HBk.out.trans (HB3.out.mono HBk.out.size)).setCell HG5.out _⟩, ⟨blk_put HW3.out k _ ((wantC_set _ k hlt _).trans (congrArg wantC (zerosTo_set k)))⟩⟩
      case measure => simp [intOf]; omega
    · have hk8 : k = 8 := by omega
      rw [hk8, zerosTo8] at HWk
      have e1 : decide ((k : Int) < 8) = false := decide_eq_false (by omega)
      clear hlt hk HD5 HB5 HW5 hk8
      go_upto_block 2 with fail
      have HD := HDk
      have HB := HBk
      have HW := HWk
      clear HDk HBk HWk e1
      go_cut [8, 9] from 25 to 65 (fun s8 s9 wx => Aside0 (IsD w.heap.size wx g (puts D0 (l.take 30))) ∧ Aside0 (Below w.heap.size w wx) ∧ Aside0 (wx.heap[gw]? = some (.cells (wantF (wf (l.take 30))) 33 (0, 0))))
      case rest =>
        clear HD HB HW
        obtain ⟨HD, HB, HW⟩ := hcut
        have HLV := Aside0.mk (puts_live D0_live (l.take 30))
        have HTK := Aside0.mk (show (l.take 30).length ≤ 30 by rw [List.length_take]; omega)
        have H3C := Aside0.mk (Kd.C_below H3.out HB.out)
        go_upto_block 4 with (first
          | (go_at_call 11; refine (flush_calls w.heap.size g (puts D0 (l.take 30)) w _ HD.out HB.out (Nat.le_refl _) (by rw [HLV.out.cnt]; have := HTK.out; omega)).mono ?_; rintro e w4 ⟨rfl, h1, h2, h3⟩; rw [flush_live HLV.out] at h1 ⊢; have HW4 := Aside0.mk (h3.2 gw _ _ _ HW.out (by decide) (by decide)); have H3C4 := Aside0.mk (Kd.C_below H3.out h2); have HB4 := Aside0.mk h2; have HD4 := Aside0.mk (show IsD w.heap.size w4 g (keepsD (puts D0 (l.take 30)) (fun _ => true)) from h1); clear HW H3C HB HD h1 h2 h3)
          | ((with_reducible refine gate_dst (N := 70) rfl ?_); refine Kd.R_lit Kd.bool w4.heap.size 4 ?hg (N := 70) ?hd (xs := ([] : List Bool)) (inner := []) (ok := fun _ => True) (okp := fun _ => True) ?hr ?hp (fun _ hk => hk) trivial (Below.refl _ _) (Nat.le_refl _) (by simp) ?_; (case hd => rfl); (case hg => rfl); (case hr => first | (go_simp; done) | (go_simp; rfl)); (case hp => exact (Reps.none _ _)); intro v3 w3 ho4 hb hg_ hnew_; clear hg_ hnew_; have HO := Aside0.mk ho4; have HB3 := Aside0.mk hb; clear hb ho4)
          | ((with_reducible refine gate_dst (N := 72) rfl ?_); at_builtin; refine Kd.R_append_rows Kd.bool (w0 := w4) w4.heap.size rfl (.tmp 70) (.tmp 71) 23 4 (.bool false) 1 rfl Try.underlying23 INB.out rfl (by decide) (by omega) v3 [] l3 _ _ _ (fun _ => True) (fun _ => False) rfl rfl ?aO ?aR (fun _ _ h => h) (fun _ h => h.elim) ?aF ?aB ?aS ?aL ?_; (case aR => exact Kd.C_below H3C4.out HB3.out); (case aB => exact HB3.out); (case aF => exact (fun _ _ => trivial)); (case aO => exact HO.out); (case aS => exact HB3.out.size); (case aL => have := B3.out; simp; omega); intro v5 w5 ho hb hg hat; obtain ⟨A5, c5, rfl⟩ := Kd.R_slice ho; rw [List.nil_append] at ho; have HO5 := Aside0.mk ho; have HB5 := Aside0.mk hb; clear ho hb hg hat)
          | (go_at_call 13; refine (crash_calls w.heap.size g (keepsD (puts D0 (l.take 30)) (fun _ => true)) w _ (HD4.out.below HB5.out) (HB4.out.trans (HB5.out.mono HB4.out.size)) (Nat.le_refl _) (by have h := (keeps_live HLV.out (fun _ => true)).cnt; rw [h]; have := HTK.out; omega) A5 c5 l3 (fun W' h1 _ => lies_bool HO5.out W' h1)).mono ?_; rintro e w6 ⟨rfl, h1, h2, h3⟩; have HW := Aside0.mk (h3.2 gw _ _ _ (blk_below HW4.out HB5.out) (by decide) (by decide)); have HD := Aside0.mk (show IsD w.heap.size w6 g (DF (l.take 30) l3) from h1); have HB := Aside0.mk h2; clear HD4 HB4 HW4 h1 h2 h3 HO HO5 HB3 HB5))
        go_wp2_with fail
        go_loopw [10] (fun x wr => ∃ k : Nat, k ≤ 8 ∧ x = .int .i64 k ∧ Aside0 (IsD w.heap.size wr g (DF (l.take 30) l3)) ∧ Aside0 (Below w.heap.size w wr) ∧ Aside0 (wr.heap[gw]? = some (.cells (wantF (wf (l.take 30))) 33 (0, 0)))) (fun x _ => 8 - (intOf x).toNat)
        case atStart => exact ⟨0, by decide, rfl, HD, HB, HW⟩
        case round =>
          obtain ⟨k, hk, rfl, HDk, HBk, HWk⟩ := hrel
          by_cases hlt : k < 8
          · have e1 : decide ((k : Int) < 8) = true := decide_eq_true (by omega)
            have e2 : decide (k < 8) = true := decide_eq_true hlt
            go_upto_region 23 with (first
              | (go_at_call 15; refine (read_calls w.heap.size g (DF (l.take 30) l3) (k : Int) ⟨by omega, by omega⟩ w _ HDk.out HBk.out (by rw [(DF_live (l.take 30) l3).cnt]; have := HTK.out; omega)).mono ?_; rw [DF_read (l.take 30) l3 (k : Int) (by omega) (by omega)]; rintro e w8 ⟨v8, rfl, h1, h2, h3, h4⟩; have HW8 := Aside0.mk (h3.2 gw _ _ _ HWk.out (by decide) (by decide)); have HD8 := Aside0.mk h1; have HB8 := Aside0.mk h2; obtain ⟨A8, c8, rfl, _, hC8⟩ := Kd.R_reads h4; have HC8 := Aside0.mk hC8; clear h1 h2 h3 h4 hC8))
            obtain ⟨xs, hxs⟩ : ∃ xs, xs = wf (List.take 30 l) (k : Int) := ⟨_, rfl⟩
            have cw8 : w8.cell? ⟨gw, k, none⟩ = some (.string (strOfNums xs)) := (blk_cell HW8.out k).trans (by rw [hxs]; exact wantF_at _ k hlt)
            rw [← hxs] at HC8 ⊢
            clear hxs
            refine start_ (n := 10) (S := fun w' => w'.cell? ⟨gw, k, none⟩ = some (.string (strOfNums xs)) ∧ Kd.C (Kd.int .u8) w' A8 xs.length xs) (ds := []) #[false, false, false, false, false, false, false, false, false, false] (by kernel_rfl) rfl rfl ⟨cw8, Kd.C_drew HC8.out⟩ (fun hHeld => ?_)
            refine pure_ (i := 0) (N := some 84) (v := ?_) (a' := ?_) #[true, false, false, false, false, false, false, false, false, false] rfl rfl (by kernel_rfl) (fun _ _ _ h => h) (Or.inl ⟨by rfl, ?_⟩) ?_ ?_
            rotate_left
            · intro w'
              go_simp
              with_reducible rfl
            rotate_left
            · simp only [Act.put, List.setIfInBounds_toArray, List.set_cons_zero, List.set_cons_succ]
              rfl
            refine take_ (i := 1) (N := some 85) (v := .string (strOfNums xs)) (a' := ?_) #[true, true, false, false, false, false, false, false, false, false] rfl rfl (by kernel_rfl) (fun _ _ _ h => h) (Or.inl ⟨by rfl, ?_⟩) hHeld ?_ ?_
            · rintro w' ⟨s0, s1⟩
              exact exec_conv (x := .tmp 84) rfl rfl (bytes_string (c := c8) s1)
            rotate_left
            · simp only [Act.put, List.setIfInBounds_toArray, List.set_cons_zero, List.set_cons_succ]
              rfl
            refine pure_ (i := 2) (N := some 86) (v := ?_) (a' := ?_) #[true, true, true, false, false, false, false, false, false, false] rfl rfl (by kernel_rfl) (fun _ _ _ h => h) (Or.inl ⟨by rfl, ?_⟩) ?_ ?_
            rotate_left
            · intro w'
              go_simp
              with_reducible rfl
            rotate_left
            · simp only [Act.put, List.setIfInBounds_toArray, List.set_cons_zero, List.set_cons_succ]
              rfl
            refine pure_ (i := 3) (N := some 87) (v := .pointer (some ⟨gw, k, none⟩)) (a' := ?_) #[true, true, true, true, false, false, false, false, false, false] rfl rfl (by kernel_rfl) (fun _ _ _ h => h) (Or.inl ⟨by rfl, ?_⟩) ?_ ?_
            · intro w'
              go_simp
              intro h_
              exfalso
              omega
            rotate_left
            · simp only [Act.put, List.setIfInBounds_toArray, List.set_cons_zero, List.set_cons_succ]
              rfl
            refine take_ (i := 4) (N := some 88) (v := ?_) (a' := ?_) #[true, true, true, true, true, false, false, false, false, false] rfl rfl (by kernel_rfl) (fun _ _ _ h => h) (Or.inl ⟨by rfl, ?_⟩) hHeld ?_ ?_
            rotate_left
            · rintro w' ⟨s0, s1⟩
              go_simp
              with_reducible rfl
            rotate_left
            · simp only [Act.put, List.setIfInBounds_toArray, List.set_cons_zero, List.set_cons_succ]
              rfl
            refine pure_ (i := 5) (N := some 89) (v := .bool false) (a' := ?_) #[true, true, true, true, true, true, false, false, false, false] rfl rfl (by kernel_rfl) (fun _ _ _ h => h) (Or.inl ⟨by rfl, ?_⟩) ?_ ?_
            · intro w'
              go_simp
            rotate_left
            · simp only [Act.put, List.setIfInBounds_toArray, List.set_cons_zero, List.set_cons_succ]
              rfl
            refine pure_ (i := 6) (N := some 90) (v := ?_) (a' := ?_) #[true, true, true, true, true, true, true, false, false, false] rfl rfl (by kernel_rfl) (fun _ _ _ h => h) (Or.inl ⟨by rfl, ?_⟩) ?_ ?_
            rotate_left
            · intro w'
              go_simp
              with_reducible rfl
            rotate_left
            · simp only [Act.put, List.setIfInBounds_toArray, List.set_cons_zero, List.set_cons_succ]
              rfl
            refine pure_ (i := 7) (N := some 91) (v := ?_) (a' := ?_) #[true, true, true, true, true, true, true, true, false, false] rfl rfl (by kernel_rfl) (fun _ _ _ h => h) (Or.inl ⟨by rfl, ?_⟩) ?_ ?_
            rotate_left
            · intro w'
              go_simp
              with_reducible rfl
            rotate_left
            · simp only [Act.put, List.setIfInBounds_toArray, List.set_cons_zero, List.set_cons_succ]
              rfl
            refine pure_ (i := 8) (N := some 92) (v := ?_) (a' := ?_) #[true, true, true, true, true, true, true, true, true, false] rfl rfl (by kernel_rfl) (fun _ _ _ h => h) (Or.inl ⟨by rfl, ?_⟩) ?_ ?_
            rotate_left
            · intro w'
              go_simp
              with_reducible rfl
            rotate_left
            · simp only [Act.put, List.setIfInBounds_toArray, List.set_cons_zero, List.set_cons_succ]
              rfl
            refine pure_ (i := 9) (N := some 93) (v := ?_) (a' := ?_) #[true, true, true, true, true, true, true, true, true, true] rfl rfl (by kernel_rfl) (fun _ _ _ h => h) (Or.inl ⟨by rfl, ?_⟩) ?_ ?_
            rotate_left
            · intro w'
              go_simp
              with_reducible rfl
            rotate_left
            · simp only [Act.put, List.setIfInBounds_toArray, List.set_cons_zero, List.set_cons_succ]
              rfl
            refine done_ (by kernel_rfl) ?_
            go_wp2
            go_roundw
            case rel => exact ⟨k + 1, by omega, by go_num, ⟨HD8.out.below (below_drew (Below.refl _ _))⟩, ⟨below_drew HB8.out⟩, ⟨blk_drew HW8.out⟩⟩
            case measure => simp [intOf]; omega
          · have e1 : decide ((k : Int) < 8) = false := decide_eq_false (by omega)
            go_wp2_with (first
              | (go_at_call 14; refine (lives_calls _).mono ?_; rintro e w8 ⟨rfl, h2⟩; have HB8 := Aside0.mk (HBk.out.trans (h2.mono HBk.out.size)); clear h2))
            go_ret
            exact ⟨rfl, HB8.out⟩
      case first =>
        go_wp2_with fail
        go_loopw [8] (fun x wr => ∃ k : Nat, k ≤ n ∧ k ≤ 30 ∧ x = .int .i64 k ∧ Aside0 (IsD w.heap.size wr g (puts D0 (l.take k))) ∧ Aside0 (Below w.heap.size w wr) ∧ Aside0 (wr.heap[gw]? = some (.cells (wantF (wf (l.take k))) 33 (0, 0)))) (fun x _ => n - (intOf x).toNat)
        case atStart => exact ⟨0, Nat.zero_le _, by decide, rfl, HD, HB, HW⟩
        case round =>
          obtain ⟨k, hk, hk2, rfl, HDk, HBk, HWk⟩ := hrel
          by_cases hlt : k < n ∧ k < 30
          · obtain ⟨hx1, hx2⟩ := hlt
            have e1 : decide ((k : Int) < n) = true := decide_eq_true (by omega)
            have e2 : decide ((k : Int) < 30) = true := decide_eq_true (by omega)
            have hat := act_at (Kd.C_below H1.out HBk.out) k (by rw [← N1.out]; exact hx1)
            obtain ⟨a, ha⟩ : ∃ a, a = l.getD k act0 := ⟨_, rfl⟩
            rw [← ha] at hat
            obtain ⟨ad, AB, cB, hA, hc1, hc2, hle, hC⟩ := hat
            subst hA
            have HA := Aside0.mk ha
            have HC := Aside0.mk hC
            clear ha hC
            have HC1r := Aside0.mk hc1
            have HLE := Aside0.mk hle
            have HOK := Aside0.mk (show OkB a.2.2.1 by rw [HA.out]; exact okl_at O1.out k (by rw [← N1.out]; exact hx1))
            have HLV := Aside0.mk (puts_live D0_live (l.take k))
            have HTK := Aside0.mk (show (l.take k).length ≤ 30 by rw [List.length_take]; omega)
            rw [add_off _ _ 2 (by decide)] at hc2
            clear hc1 hle
            go_upto_region 13 with (first
              | (go_at_call 10; refine (short_calls AB cB a.2.2.1 _ HC.out HLE.out).mono ?_; rintro e w9 ⟨v9, rfl, h4, h5⟩; obtain ⟨A9, c9, rfl⟩ := Kd.R_slice h4; have HR9 := Aside0.mk h4; have HS9 := Aside0.mk h5; have HD9 := Aside0.mk (HDk.out.below h5); have HB9 := Aside0.mk (HBk.out.trans (h5.mono HBk.out.size)); have HW9 := Aside0.mk (blk_below HWk.out h5); have HC1 := Aside0.mk (cell_on HC1r.out h5); clear h4 h5))
            have HT9 := Aside0.mk (show (a.2.2.1.take 512).length ≤ 512 by rw [List.length_take]; omega)
            obtain ⟨bt, hbt⟩ : ∃ bt, bt = a.2.2.1.take 512 := ⟨_, rfl⟩
            have HOB := Aside0.mk (show OkB bt by rw [hbt]; exact okb_take HOK.out 512)
            rw [← hbt] at HR9 HT9
            try rw [show min 512 a.2.2.1.length = bt.length by rw [hbt, List.length_take]]
            obtain ⟨A9', c9'', hsl, hle9, hC9⟩ := Kd.R_reads HR9.out
            injection hsl with hA9 hn9 hc9'
            subst hA9
            subst hc9'
            have HBT := Aside0.mk hbt
            obtain ⟨nb, hnb⟩ : ∃ nb, nb = bt.length := ⟨_, rfl⟩
            rw [← hnb] at hC9 HR9 HT9 ⊢
            have HC9 := Aside0.mk hC9
            clear hbt hle9 hC9
            have HNB := Aside0.mk hnb
            have hnb2 : nb ≤ 512 := HT9.out
            have I512 : IntKind.i64.wrap (512 - (nb : Int)) = 512 - (nb : Int) := by rw [IntKind.wrap_i64]; omega
            clear hnb
            refine start_ (n := 12) (S := fun w' => w'.cell? (ad.add (k * 4 + 1)) = some (.int .i64 a.2.1) ∧ Below w9.heap.size w9 w') (ds := [10, 11]) #[false, false, false, false, false, false, false, false, false, false, false, false] (by kernel_rfl) rfl rfl ⟨HC1.out, below_drew (Below.refl _ _)⟩ (fun hHeld => ?_)
            refine pure_ (i := 0) (N := some 41) (v := ?_) (a' := ?_) #[true, false, false, false, false, false, false, false, false, false, false, false] rfl rfl (by kernel_rfl) (fun _ _ _ h => h) (Or.inl ⟨by rfl, ?_⟩) ?_ ?_
            rotate_left
            · intro w'
              go_simp
              with_reducible rfl
            rotate_left
            · simp only [Act.put, List.setIfInBounds_toArray, List.set_cons_zero, List.set_cons_succ]
              rfl
            refine pure_ (i := 1) (N := some 42) (v := ?_) (a' := ?_) #[true, true, false, false, false, false, false, false, false, false, false, false] rfl rfl (by kernel_rfl) (fun _ _ _ h => h) (Or.inl ⟨by rfl, ?_⟩) ?_ ?_
            rotate_left
            · intro w'
              go_simp
              with_reducible rfl
            rotate_left
            · simp only [Act.put, List.setIfInBounds_toArray, List.set_cons_zero, List.set_cons_succ]
              rfl
            refine pure_ (i := 2) (N := some 43) (v := ?_) (a' := ?_) #[true, true, true, false, false, false, false, false, false, false, false, false] rfl rfl (by kernel_rfl) (fun _ _ _ h => h) (Or.inl ⟨by rfl, ?_⟩) ?_ ?_
            rotate_left
            · intro w'
              go_simp
              with_reducible rfl
            rotate_left
            · simp only [Act.put, List.setIfInBounds_toArray, List.set_cons_zero, List.set_cons_succ]
              rfl
            refine pure_ (i := 3) (N := some 44) (v := ?_) (a' := ?_) #[true, true, true, true, false, false, false, false, false, false, false, false] rfl rfl (by kernel_rfl) (fun _ _ _ h => h) (Or.inl ⟨by rfl, ?_⟩) ?_ ?_
            rotate_left
            · intro w'
              go_simp
              with_reducible rfl
            rotate_left
            · simp only [Act.put, List.setIfInBounds_toArray, List.set_cons_zero, List.set_cons_succ]
              rfl
            refine pure_ (i := 4) (N := some 45) (v := ?_) (a' := ?_) #[true, true, true, true, true, false, false, false, false, false, false, false] rfl rfl (by kernel_rfl) (fun _ _ _ h => h) (Or.inl ⟨by rfl, ?_⟩) ?_ ?_
            rotate_left
            · intro w'
              go_simp
              with_reducible rfl
            rotate_left
            · simp only [Act.put, List.setIfInBounds_toArray, List.set_cons_zero, List.set_cons_succ]
              rfl
            refine take_ (i := 5) (N := some 46) (v := ?_) (a' := ?_) #[true, true, true, true, true, true, false, false, false, false, false, false] rfl rfl (by kernel_rfl) (fun _ _ _ h => h) (Or.inl ⟨by rfl, ?_⟩) hHeld ?_ ?_
            rotate_left
            · rintro w' ⟨s0, s1⟩
              rw [add_off _ _ 1 (by decide)] at s0
              go_simp
              with_reducible rfl
            rotate_left
            · simp only [Act.put, List.setIfInBounds_toArray, List.set_cons_zero, List.set_cons_succ]
              rfl
            refine pure_ (i := 6) (N := some 47) (v := .int .i64 (and7 a.2.1)) (a' := ?_) #[true, true, true, true, true, true, true, false, false, false, false, false] rfl rfl (by kernel_rfl) (fun _ _ _ h => h) (Or.inl ⟨by rfl, ?_⟩) ?_ ?_
            · intro w'
              rfl
            rotate_left
            · simp only [Act.put, List.setIfInBounds_toArray, List.set_cons_zero, List.set_cons_succ]
              rfl
            refine pure_ (i := 8) (N := some 49) (v := ?_) (a' := ?_) #[true, true, true, true, true, true, true, false, true, false, false, false] rfl rfl (by kernel_rfl) (fun _ _ _ h => h) (Or.inl ⟨by rfl, ?_⟩) ?_ ?_
            rotate_left
            · intro w'
              go_simp
              with_reducible rfl
            rotate_left
            · simp only [Act.put, List.setIfInBounds_toArray, List.set_cons_zero, List.set_cons_succ]
              rfl
            refine one_ (i := 7) (N := some 48) #[true, true, true, true, true, true, true, true, true, false, false, false] rfl rfl (by kernel_rfl) (by decide) (fun K hK => ?_)
            refine Kd.R_lit_step (Kd.int .u8) (w0 := w9) w9.heap.size 5 (by rfl) (N := 48) rfl (xs := ([] : List Int)) (inner := []) (ok := fun _ => True) (okp := fun _ => True) ?hr (Reps.none _ _) (fun _ hk => hk) trivial ?hB ?hS (by simp) ?_
            case hr => first | (go_simp; done) | (go_simp; rfl)
            case hB => exact below_drew (Below.refl _ _)
            case hS => exact Nat.le_refl _
            intro v3 w10 ho4 hb _ _
            have HO := Aside0.mk ho4
            have HB10 := Aside0.mk hb
            show K (Act.put _ (some 48) _) _
            simp only [Act.put, List.setIfInBounds_toArray, List.set_cons_zero, List.set_cons_succ]
            refine hK.out _ _ ⟨cell_on HC1.out hb, hb⟩ (fun hHeld => ?_)
            clear hK K ho4 hb
            refine one_ (i := 9) (N := some 50) #[true, true, true, true, true, true, true, true, true, true, false, false] rfl rfl (by kernel_rfl) (by decide) (fun K hK => ?_)
            refine Kd.R_append_rows_step (Kd.int .u8) (w0 := w9) w9.heap.size (by rfl) (.tmp 48) (.tmp 49) 28 5 (.int .u8 0) 1 rfl Try.underlying28 INF.out rfl (by decide) (by omega) v3 [] bt _ _ _ (fun _ => True) (fun _ => False) rfl rfl ?aO ?aR (fun _ _ h => h) (fun _ h => h.elim) ?aF ?aB ?aS ?aL ?_
            case aR => exact Kd.C_below HC9.out HB10.out
            case aB => exact HB10.out
            case aF => exact (fun _ _ => trivial)
            case aO => exact HO.out
            case aS => exact HB10.out.size
            case aL => simp; omega
            intro v5 w11 ho hb hg hat
            rw [List.nil_append] at ho
            obtain ⟨A5, c5, rfl⟩ := Kd.R_slice ho
            have HO11 := Aside0.mk ho
            have HB11 := Aside0.mk hb
            show K (Act.put _ (some 50) _) _
            simp only [Act.put, List.setIfInBounds_toArray, List.set_cons_zero, List.set_cons_succ]
            refine hK.out _ _ ⟨cell_on HC1.out hb, hb⟩ (fun hHeld => ?_)
            clear hK K ho hb hg hat
            refine last_ (i := 10) (N := some 51) #[true, true, true, true, true, true, true, true, true, true, true, false] rfl rfl (by kernel_rfl) (by decide) (fun K hK => ?_)
            refine goes_ Try.func9 (by kernel_rfl) rfl #[.pointer (some ⟨g, 0, none⟩), .int .i64 (and7 a.2.1), .slice A5 bt.length c5] (by rfl) rfl rfl (by (try simp only [List.map_toArray, List.map_cons, List.map_nil]); first | done | rfl) ?_
            refine (write_yes w.heap.size g _ (and7 a.2.1) A5 c5 bt w _ (HD9.out.below HB11.out) (HB9.out.trans (HB11.out.mono HB9.out.size)) (lies_of_R HO11.out) HOB.out (by rw [HBT.out, write_live HLV.out]) (by rw [HLV.out.cnt]; have := HTK.out; omega) (Nat.le_refl _)).mono ?_
            rintro e w8 ⟨rfl, h4, h5, h6⟩
            refine ⟨_, rfl, ?_⟩
            have HD8 := Aside0.mk h4
            have HB8 := Aside0.mk h5
            have HK8 := Aside0.mk h6
            clear h4 h5 h6
            refine hK.out _ _ ?_
            clear hK K
            refine pure_ (i := 11) (N := some 52) (v := ?_) (a' := ?_) #[true, true, true, true, true, true, true, true, true, true, true, true] rfl rfl (by kernel_rfl) (fun _ _ _ h => h) (Or.inl ⟨by rfl, ?_⟩) ?_ ?_
            rotate_left
            · intro w'
              go_simp
              with_reducible rfl
            rotate_left
            · simp only [Act.put, List.setIfInBounds_toArray, List.set_cons_zero, List.set_cons_succ]
              rfl
            refine done_ (by kernel_rfl) ?_
            go_upto_region 15 with fail
            have HR8 := Aside0.mk (R_keepD (Kd.R_below HR9.out HB11.out) HK8.out)
            have HW8 := Aside0.mk (HK8.out.2 gw _ _ _ (blk_below HW9.out HB11.out) (by decide) (by decide))
            have HJJ : ∃ jj : Nat, and7 a.2.1 = (jj : Int) ∧ jj < 8 := ⟨(and7 a.2.1).toNat, by have := and7_ge a.2.1; omega, by have := and7_ge a.2.1; omega⟩
            obtain ⟨jj, hjj⟩ := HJJ
            have HJ := Aside0.mk hjj
            clear hjj
            have HC1w : Aside0 (w.cell? (ad.add (k * 4 + 1)) = some (.int .i64 a.2.1)) := ⟨by
              obtain ⟨ad8, _, _, hA8, hc8, _⟩ := act_at H1.out k (by rw [← N1.out]; exact hx1)
              obtain rfl : ad = ad8 := by injection hA8
              rw [HA.out]; exact hc8⟩
            refine start_ (n := 14) (S := fun w' => w'.cell? (ad.add (k * 4 + 1)) = some (.int .i64 a.2.1)) (ds := [13]) #[false, false, false, false, false, false, false, false, false, false, false, false, false, false] (by kernel_rfl) rfl rfl (cell_on HC1w.out (below_drew HB8.out)) (fun hHeld => ?_)
            refine pure_ (i := 0) (N := some 53) (v := ?_) (a' := ?_) #[true, false, false, false, false, false, false, false, false, false, false, false, false, false] rfl rfl (by kernel_rfl) (fun _ _ _ h => h) (Or.inl ⟨by rfl, ?_⟩) ?_ ?_
            rotate_left
            · intro w'
              go_simp
              with_reducible rfl
            rotate_left
            · simp only [Act.put, List.setIfInBounds_toArray, List.set_cons_zero, List.set_cons_succ]
              rfl
            refine pure_ (i := 1) (N := some 54) (v := ?_) (a' := ?_) #[true, true, false, false, false, false, false, false, false, false, false, false, false, false] rfl rfl (by kernel_rfl) (fun _ _ _ h => h) (Or.inl ⟨by rfl, ?_⟩) ?_ ?_
            rotate_left
            · intro w'
              go_simp
              with_reducible rfl
            rotate_left
            · simp only [Act.put, List.setIfInBounds_toArray, List.set_cons_zero, List.set_cons_succ]
              rfl
            refine pure_ (i := 2) (N := some 55) (v := ?_) (a' := ?_) #[true, true, true, false, false, false, false, false, false, false, false, false, false, false] rfl rfl (by kernel_rfl) (fun _ _ _ h => h) (Or.inl ⟨by rfl, ?_⟩) ?_ ?_
            rotate_left
            · intro w'
              go_simp
              with_reducible rfl
            rotate_left
            · simp only [Act.put, List.setIfInBounds_toArray, List.set_cons_zero, List.set_cons_succ]
              rfl
            refine pure_ (i := 3) (N := some 56) (v := ?_) (a' := ?_) #[true, true, true, true, false, false, false, false, false, false, false, false, false, false] rfl rfl (by kernel_rfl) (fun _ _ _ h => h) (Or.inl ⟨by rfl, ?_⟩) ?_ ?_
            rotate_left
            · intro w'
              go_simp
              with_reducible rfl
            rotate_left
            · simp only [Act.put, List.setIfInBounds_toArray, List.set_cons_zero, List.set_cons_succ]
              rfl
            refine take_ (i := 4) (N := some 57) (v := ?_) (a' := ?_) #[true, true, true, true, true, false, false, false, false, false, false, false, false, false] rfl rfl (by kernel_rfl) (fun _ _ _ h => h) (Or.inl ⟨by rfl, ?_⟩) hHeld ?_ ?_
            rotate_left
            · intro w' s1
              rw [add_off _ _ 1 (by decide)] at s1
              go_simp
              with_reducible rfl
            rotate_left
            · simp only [Act.put, List.setIfInBounds_toArray, List.set_cons_zero, List.set_cons_succ]
              rfl
            refine pure_ (i := 5) (N := some 58) (v := .int .i64 (and7 a.2.1)) (a' := ?_) #[true, true, true, true, true, true, false, false, false, false, false, false, false, false] rfl rfl (by kernel_rfl) (fun _ _ _ h => h) (Or.inl ⟨by rfl, ?_⟩) ?_ ?_
            · intro w'
              rfl
            rotate_left
            · simp only [Act.put, List.setIfInBounds_toArray, List.set_cons_zero, List.set_cons_succ]
              rfl
            refine pure_ (i := 6) (N := some 59) (v := ?_) (a' := ?_) #[true, true, true, true, true, true, true, false, false, false, false, false, false, false] rfl rfl (by kernel_rfl) (fun _ _ _ h => h) (Or.inl ⟨by rfl, ?_⟩) ?_ ?_
            rotate_left
            · intro w'
              go_simp
              with_reducible rfl
            rotate_left
            · simp only [Act.put, List.setIfInBounds_toArray, List.set_cons_zero, List.set_cons_succ]
              rfl
            refine pure_ (i := 7) (N := some 60) (v := ?_) (a' := ?_) #[true, true, true, true, true, true, true, true, false, false, false, false, false, false] rfl rfl (by kernel_rfl) (fun _ _ _ h => h) (Or.inl ⟨by rfl, ?_⟩) ?_ ?_
            rotate_left
            · intro w'
              go_simp
              with_reducible rfl
            rotate_left
            · simp only [Act.put, List.setIfInBounds_toArray, List.set_cons_zero, List.set_cons_succ]
              rfl
            refine pure_ (i := 8) (N := some 61) (v := ?_) (a' := ?_) #[true, true, true, true, true, true, true, true, true, false, false, false, false, false] rfl rfl (by kernel_rfl) (fun _ _ _ h => h) (Or.inl ⟨by rfl, ?_⟩) ?_ ?_
            rotate_left
            · intro w'
              go_simp
              with_reducible rfl
            rotate_left
            · simp only [Act.put, List.setIfInBounds_toArray, List.set_cons_zero, List.set_cons_succ]
              rfl
            refine pure_ (i := 9) (N := some 62) (v := .int .i64 (512 - (nb : Int))) (a' := ?_) #[true, true, true, true, true, true, true, true, true, true, false, false, false, false] rfl rfl (by kernel_rfl) (fun _ _ _ h => h) (Or.inl ⟨by rfl, ?_⟩) ?_ ?_
            · intro w'
              go_simp
            rotate_left
            · simp only [Act.put, List.setIfInBounds_toArray, List.set_cons_zero, List.set_cons_succ]
              rfl
            refine one_ (i := 10) (N := some 63) #[true, true, true, true, true, true, true, true, true, true, true, false, false, false] rfl rfl (by kernel_rfl) (by decide) (fun K hK => ?_)
            refine Kd.R_append_zeros_step (Kd.int .u8) (w0 := w8) wr.heap.size (by rfl) (.tmp 59) (.tmp 62) 28 3 5 (.int .u8 0) 1 rfl Try.underlying28 Try.underlying3 INF.out rfl (by decide) (by decide) (.slice A9 nb c9) bt 0 (kx := .i64) (512 - (nb : Int)) (fun _ => True) rfl rfl ?aZ (fun _ _ => trivial) (Kd.R_drew HR8.out) (by omega) (below_drew (Below.refl _ _)) ?aS ?aL ?_
            case aZ => rfl
            case aS => exact Nat.le_trans HS9.out.size (Nat.le_trans HB11.out.size HK8.out.1)
            case aL => rw [← HNB.out]; omega
            intro v6 w12 ho hb hg hat
            have hr5 : ∀ q, (Value.slice A9 nb c9).ownBlock = some q → ∃ cs, w8.drew.heap[q]? = some (.cells cs 5 (0, 0)) := R_row5 (Kd.R_drew HR8.out)
            have HD12 := Aside0.mk ((HD8.out.below (below_drew (Below.refl _ _))).grown5 hg hr5)
            have HW12 := Aside0.mk (blk_row5 (t := 33) (blk_drew HW8.out) (by decide) hg hr5)
            have HB12 := Aside0.mk (HB8.out.trans (hb.mono HBk.out.size))
            obtain ⟨A12, c12, rfl, _, hC12⟩ := Kd.R_reads ho
            have hcv := pad_raw (c := c12) HNB.out hC12
            show K (Act.put _ (some 63) _) _
            simp only [Act.put, List.setIfInBounds_toArray, List.set_cons_zero, List.set_cons_succ]
            refine hK.out _ _ (cell_on HC1w.out HB12.out) (fun hHeld => ?_)
            clear hK K ho hb hg hat hC12 hr5
            refine one_ (i := 11) (N := some 64) #[true, true, true, true, true, true, true, true, true, true, true, true, false, false] rfl rfl (by kernel_rfl) (by decide) (fun K hK => ?_)
            refine value_ (by rfl) rfl (exec_conv (x := .tmp 63) rfl rfl hcv) ?_
            refine hK.out _ _ hHeld (fun hHeld => ?_)
            clear hK K
            refine pure_ (i := 12) (N := some 65) (v := .pointer (some ⟨gw, jj, none⟩)) (a' := ?_) #[true, true, true, true, true, true, true, true, true, true, true, true, true, false] rfl rfl (by kernel_rfl) (fun _ _ _ h => h) (Or.inl ⟨by rfl, ?_⟩) ?_ ?_
            · intro w'
              have hj8 := HJ.out.2
              have hj9 : decide ((jj : Int) < 8) = true := decide_eq_true (by omega)
              have hj7 : decide (jj < 8) = true := decide_eq_true hj8
              rw [HJ.out.1]
              go_simp
              intro h_
              exfalso
              omega
            rotate_left
            · simp only [Act.put, List.setIfInBounds_toArray, List.set_cons_zero, List.set_cons_succ]
              rfl
            refine last_ (i := 13) (N := none) #[true, true, true, true, true, true, true, true, true, true, true, true, true, true] rfl rfl (by kernel_rfl) (by decide) (fun K hK => ?_)
            refine skip_ (by rfl) rfl (exec_store9 (x := .tmp 65) (v := .tmp 64) rfl rfl rfl ((blk_cell HW12.out jj).trans (wantF_at _ jj HJ.out.2)) (blk_frozen HW12.out jj)) ?_
            refine hK.out _ _ ?_
            clear hK K
            refine done_ (by kernel_rfl) ?_
            go_wp2
            go_roundw
            case rel =>
              refine ⟨k + 1, by omega, by omega, by go_num, ⟨?_⟩, ⟨HB12.out.setCell HG5.out _⟩, ⟨?_⟩⟩
              · rw [puts_take _ _ _ (by rw [← N1.out]; exact hx1), ← HA.out]
                have := HD12.out.far HW12.out (j := jj) (.string (strOfNums (pad bt)))
                rw [HBT.out] at this ⊢
                exact this
              · rw [wf_take _ _ (by rw [← N1.out]; exact hx1), ← HA.out]
                have := blk_put HW12.out jj _ (wantF_set (wf (l.take k)) jj HJ.out.2 (pad bt))
                unfold wr1
                rw [HJ.out.1, ← HBT.out]
                exact this
            case measure => simp [intOf]; omega
          · have hT : l.take k = l.take 30 := by
              have hl := N1.out
              by_cases hk30 : k = 30
              · rw [hk30]
              · rw [List.take_of_length_le (by omega), List.take_of_length_le (by omega)]
            rw [hT] at HDk HWk
            by_cases hlt1 : k < n
            · have e1 : decide ((k : Int) < n) = true := decide_eq_true (by omega)
              have e2 : decide ((k : Int) < 30) = false := decide_eq_false (by omega)
              go_wp2_with fail
              go_meet
              case rel => exact ⟨HDk, HBk, HWk⟩
            · have e1 : decide ((k : Int) < n) = false := decide_eq_false (by omega)
              go_wp2_with fail
              go_meet
              case rel => exact ⟨HDk, HBk, HWk⟩
end Go.Proofs.Ytnaegemldpfllaa.Dis
