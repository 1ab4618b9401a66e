/- The law DiskWhole, walked by hand (written by mkwhole.py). -/
import Derived.Test.YtnaegemldpfllaaDisJ
import Derived.Deep.CutBlock
import Derived.Deep.CutRange
import Derived.Test.YtnaegemldpfllaaWGuard
import Derived.Test.YtnaegemldpfllaaWZeros
namespace Go.Proofs.Ytnaegemldpfllaa.Dis
open Go.RowKit Go.Proofs.YtnaegemldpfllaaW.PrintWords Go.Proofs.YtnaegemldpfllaaW.PrintLast Go.Proofs.YtnaegemldpfllaaW.PrintMore Go.Maps
set_option linter.unusedVariables false
set_option linter.unusedSimpArgs false
def OkL (l : List Act_) : Prop := ∀ a ∈ l, OkB a.2.2.1
theorem okl_at {l : List Act_} (h : OkL l) (k : Nat) (hk : k < l.length) : OkB (l.getD k act0).2.2.1 := h _ (by rw [List.getD_eq_getElem?_getD, List.getElem?_eq_getElem hk]; exact List.getElem_mem _)
theorem okb_take {b : List Int} (h : OkB b) (n : Nat) : OkB (b.take n) := fun x hx => h x (List.mem_of_mem_take hx)
theorem und9 : Try.prog.underlying 9 = some .string := by kernel_rfl
theorem bytes_string {w : World} {A : Option Addr} {n c : Nat} {xs : List Int} (h : (Kd.int .u8).C w A n xs) : (convert 28 9 (.slice A n c)).run Try.prog w = .ok (.string (strOfNums xs)) w := Kd.C_string Try.underlying28 Try.underlying5 und9 h
theorem pad_string {w : World} {A : Option Addr} {nb c : Nat} {bt : List Int} (hn : nb = bt.length) (h : (Kd.int .u8).C w A (bt ++ List.replicate (512 - (nb : Int)).toNat 0).length (bt ++ List.replicate (512 - (nb : Int)).toNat 0)) : (convert 28 9 (.slice A (bt.length + (512 - nb)) c)).run Try.prog w = .ok (.string (strOfNums (pad bt))) w := by
  have e : bt ++ List.replicate (512 - (nb : Int)).toNat 0 = pad bt := by
    unfold pad
    rw [hn, show ((512 : Int) - (bt.length : Int)).toNat = 512 - bt.length by omega]
  rw [e] at h
  have hl : (pad bt).length = bt.length + (512 - nb) := by unfold pad; rw [List.length_append, List.length_replicate, hn]
  rw [hl] at h
  exact bytes_string (c := c) h
/-- The sector is as it was, or one of these writes. -/
def Fits (d3 d1 : D) (k : Int) (l : List Act_) : Prop := bytesD d3 k = bytesD d1 k ∨ ∃ a ∈ l, and7 a.2.1 = k ∧ bytesD d3 k = pad (a.2.2.1.take 512)
theorem fits_nil {d3 d1 : D} {k : Int} {l2 : List Act_} (h : Fits d3 d1 k (l2.take 0)) : ((strOfNums (bytesD d3 k)).toList == (strOfNums (bytesD d1 k)).toList) = true := by
  rcases h with h | ⟨a, ha, _⟩
  · rw [h]; exact beq_self_eq_true _
  · rw [List.take_zero] at ha; cases ha
theorem take_next (l2 : List Act_) (kk : Nat) (hk : kk < l2.length) : l2.take (kk + 1) = l2.take kk ++ [l2.getD kk act0] := by
  rw [List.getD_eq_getElem?_getD, List.getElem?_eq_getElem hk]
  exact (List.take_append_getElem hk).symm
theorem fits_next_ne {d3 d1 : D} {k : Int} {l2 : List Act_} {kk : Nat} {a : Act_} (h : Aside0 (Fits d3 d1 k (l2.take kk) → false = true)) (hk : kk < l2.length) (ha : Aside0 (a = l2.getD kk act0)) (hne : and7 a.2.1 ≠ k) : Aside0 (Fits d3 d1 k (l2.take (kk + 1)) → false = true) := ⟨fun hf => h.out (by
  rcases hf with hf | ⟨x, hx, h1, h2⟩
  · exact .inl hf
  · rw [take_next l2 kk hk, ← ha.out] at hx
    rcases List.mem_append.1 hx with hx | hx
    · exact .inr ⟨x, hx, h1, h2⟩
    · rw [List.mem_singleton.1 hx] at h1
      exact absurd h1 hne)⟩
theorem fits_next_eq {d3 d1 : D} {k : Int} {l2 : List Act_} {kk : Nat} {a : Act_} (h : Aside0 (Fits d3 d1 k (l2.take kk) → false = true)) (hk : kk < l2.length) (ha : Aside0 (a = l2.getD kk act0)) : Aside0 (Fits d3 d1 k (l2.take (kk + 1)) → ((strOfNums (bytesD d3 k)).toList == (strOfNums (pad (a.2.2.1.take 512))).toList) = true) := ⟨fun hf => by
  rcases hf with hf | ⟨x, hx, h1, h2⟩
  · exact absurd (h.out (.inl hf)) (by decide)
  · rw [take_next l2 kk hk, ← ha.out] at hx
    rcases List.mem_append.1 hx with hx | hx
    · exact absurd (h.out (.inr ⟨x, hx, h1, h2⟩)) (by decide)
    · rw [List.mem_singleton.1 hx] at h2
      rw [h2]
      exact beq_self_eq_true _⟩
theorem cell_on {w w1 : World} {p : Addr} {v : Value} (h : w.cell? p = some v) (hb : Below w.heap.size w w1) : w1.cell? p = some v := by
  have hlt : p.block < w.heap.size := by
    rcases Nat.lt_or_ge p.block w.heap.size with h' | h'
    · exact h'
    · simp [World.cell?, Array.getElem?_eq_none h'] at h
  rw [hb.cell hlt]
  exact h
theorem add_off (a : Addr) (i j : Nat) (hj : j ≠ 0) : a.add (i + j) = ⟨(a.add i).block, (a.add i).off + j, none⟩ := by unfold Addr.add; by_cases hi : i = 0 <;> simp_all [Nat.add_assoc]

set_option maxHeartbeats 4000000 in
set_option maxRecDepth 100000 in
theorem whole_calls (w : World) (A1 A2 A3 : Option Addr) (c1 c2 c3 : Nat) (l1 l2 : List Act_) (l3 : List Bool)
    (h1 : actK.C w A1 l1.length l1) (h2 : actK.C w A2 l2.length l2) (h3 : Kd.C Kd.bool w A3 l3.length l3) (o1 : OkL l1) (o2 : OkL l2) (b1 : l1.length ≤ 9223372036854775807) (b2 : l2.length ≤ 9223372036854775807) (b3 : l3.length ≤ 140737488355328) :
    Calls Try.prog 3 #[.slice A1 l1.length c1, .slice A2 l2.length c2, .slice A3 l3.length c3] w fun e w' => e = .returned (.bool true) ∧ Below w.heap.size w w' := by
  have H1 := Aside0.mk h1
  have H2 := Aside0.mk h2
  have H3 := Aside0.mk h3
  have O1 := Aside0.mk o1
  have O2 := Aside0.mk o2
  have B3 := Aside0.mk b3
  clear h1 h2 h3 o1 o2 b3
  have HB := Aside0.mk (Below.refl w.heap.size w)
  obtain ⟨n1, hn1⟩ : ∃ n, n = l1.length := ⟨_, rfl⟩
  obtain ⟨n2, hn2⟩ : ∃ n, n = l2.length := ⟨_, rfl⟩
  rw [← hn1] at b1 ⊢
  rw [← hn2] at b2 ⊢
  have N1 := Aside0.mk hn1
  have N2 := Aside0.mk hn2
  clear hn1 hn2
  go_enter Try.func3, Try.ntmps3
  go_upto_block 0 with (first
    | (go_at_call 8; refine (new_calls 8 w).mono ?_; rintro e w1 ⟨g, rfl, h1, h2, h3⟩; rw [D0q] at h1; have HD := Aside0.mk h1; have HB := Aside0.mk h3; clear h1 h2 h3))
  go_cut [8] from 20 to 43 (fun s8 wx => Aside0 (IsD w.heap.size wx g (puts D0 (l1.take 20))) ∧ Aside0 (Below w.heap.size w wx))
  case rest =>
   obtain ⟨HD1, HB1⟩ := hcut
   clear HD HB
   have HD := HD1
   have HB := HB1
   clear HD1 HB1
   have HLV := Aside0.mk (puts_live D0_live (l1.take 20))
   have HTK := Aside0.mk (show (l1.take 20).length ≤ 20 by rw [List.length_take]; omega)
   go_upto_block 2 with (first
    | (go_at_call 11; refine (flush_calls w.heap.size g (puts D0 (l1.take 20)) w _ HD.out HB.out (Nat.le_refl _) (by rw [HLV.out.cnt]; have := HTK.out; omega)).mono ?_; rintro e w4 ⟨rfl, h1, h2, h3⟩; rw [flush_live HLV.out] at h1 ⊢; clear HB HD; have HB := Aside0.mk h2; have HD := Aside0.mk (show IsD w.heap.size w4 g (D1 l1) from h1); clear h1 h2 h3))
   clear HLV HTK
   have HD5 := Aside0.mk (HD.out.below (below_alloc (Below.refl _ _) (.cells (wasC (D1 l1) 0) 33 (0, 0))))
   have HB5 := Aside0.mk (HB.out.alloc HB.out.size (.cells (wasC (D1 l1) 0) 33 (0, 0)))
   have HW5 := Aside0.mk (blk_new w4 (.cells (wasC (D1 l1) 0) 33 (0, 0)))
   have HG5 := Aside0.mk HB.out.size
   obtain ⟨gw, hgw⟩ : ∃ gw, gw = w4.heap.size := ⟨_, rfl⟩
   rw [← hgw] at HW5 HG5 ⊢
   clear hgw HD HB
   go_wp2_with fail
   go_loopw [10] (fun x wr => ∃ k : Nat, k ≤ 8 ∧ x = .int .i64 k ∧ Aside0 (IsD w.heap.size wr g (D1 l1)) ∧ Aside0 (Below w.heap.size w wr) ∧ Aside0 (wr.heap[gw]? = some (.cells (wasC (D1 l1) k) 33 (0, 0)))) (fun x _ => 8 - (intOf x).toNat)
   case atStart => exact ⟨0, by decide, rfl, HD5, HB5, HW5⟩
   case round =>
    obtain ⟨k, hk, rfl, HDk, HBk, HWk⟩ := hrel
    by_cases hlt : k < 8
    · have e1 : decide ((k : Int) < 8) = true := decide_eq_true (by omega)
      have e2 : decide (k < 8) = true := decide_eq_true hlt
      have I7 := Aside0.mk (show I64 (k : Int) from ⟨by omega, by omega⟩)
      go_wp2_with (first
        | (go_at_call 12; refine (bytes_calls w.heap.size g (D1 l1) (k : Int) I7.out _ HDk.out).mono ?_; rintro e w6 ⟨v, rfl, h1, h2⟩; obtain ⟨A6, c6, rfl, _, hC6⟩ := Kd.R_reads h1; have hcv := bytes_string (c := c6) hC6; have HD6 := Aside0.mk (HDk.out.below h2); have HB6 := Aside0.mk (HBk.out.trans (h2.mono HBk.out.size)); have HW6 := Aside0.mk (blk_below HWk.out h2); have cw : w6.cell? ⟨gw, k, none⟩ = some (.string (wasS (D1 l1) k k)) := (blk_cell HW6.out k).trans (wasC_at (D1 l1) k k hlt); have fw := blk_frozen HW6.out k; clear h1 h2 hC6))
      go_roundw
      case rel => exact ⟨k + 1, by omega, by go_num, ⟨HD6.out.far HW6.out _⟩, ⟨HB6.out.setCell HG5.out _⟩, ⟨blk_put HW6.out k _ (wasC_set _ _ hlt)⟩⟩
      case measure => simp [intOf]; omega
    · have hk8 : k = 8 := by omega
      rw [hk8] at HWk
      have e1 : decide ((k : Int) < 8) = false := decide_eq_false (by omega)
      clear hlt hk HD5 HB5 HW5
      go_upto_block 4 with fail
      have HD := HDk
      have HB := HBk
      have HW := HWk
      have HT1 := Aside0.mk (show (l1.take 20).length ≤ 20 by rw [List.length_take]; omega)
      clear HDk HBk HWk e1 hk8
      go_cut [11] from 57 to 80 (fun s11 wx => Aside0 (IsD w.heap.size wx g (puts (D1 l1) (l2.take 20))) ∧ Aside0 (Below w.heap.size w wx) ∧ Aside0 (wx.heap[gw]? = some (.cells (wasC (D1 l1) 8) 33 (0, 0))))
      case rest =>
       obtain ⟨HD1, HB1, HW1⟩ := hcut
       clear HD HB HW
       have HD := Aside0.mk (show IsD w.heap.size wc g (D2 l1 l2) from HD1.out)
       have HB := HB1
       have HW := HW1
       clear HD1 HB1 HW1
       have info4 : (Try.prog.info? 4).map (fun i => (i.zero, i.size, i.bytes)) = some (some (.bool false), 1, 1) := by kernel_rfl
       have INF := Aside0.mk info4
       have HLV := Aside0.mk (D2_live l1 l2)
       have HTK := Aside0.mk (show (l1.take 20).length ≤ 20 ∧ (l2.take 20).length ≤ 20 by rw [List.length_take, List.length_take]; omega)
       have H3C := Aside0.mk (Kd.C_below H3.out HB.out)
       clear info4
       go_upto_block 6 with (first
        | ((with_reducible refine gate_dst (N := 82) rfl ?_); refine Kd.R_lit Kd.bool _ 4 ?hg (N := 82) ?hd (xs := ([] : List Bool)) (inner := []) (ok := fun _ => True) (okp := fun _ => True) ?hr ?hp (fun _ hk => hk) trivial (Below.refl _ _) (Nat.le_refl _) (by simp) ?_; (case hd => rfl); (case hg => rfl); (case hr => first | (go_simp; done) | (go_simp; rfl)); (case hp => exact (Reps.none _ _)); intro v3 w3 ho4 hb hg_ hnew_; clear hg_ hnew_; have HO := Aside0.mk ho4; have HB3 := Aside0.mk hb; clear hb ho4)
        | ((with_reducible refine gate_dst (N := 84) rfl ?_); at_builtin; refine Kd.R_append_rows Kd.bool (w0 := wc) wc.heap.size rfl (.tmp 82) (.tmp 83) 23 4 (.bool false) 1 rfl Try.underlying23 INF.out rfl (by decide) (by omega) v3 [] l3 _ _ _ (fun _ => True) (fun _ => False) rfl rfl ?aO ?aR (fun _ _ h => h) (fun _ h => h.elim) ?aF ?aB ?aS ?aL ?_; (case aR => exact Kd.C_below H3C.out HB3.out); (case aB => exact HB3.out); (case aF => exact (fun _ _ => trivial)); (case aO => exact HO.out); (case aS => exact HB3.out.size); (case aL => have := B3.out; simp; omega); intro v5 w5 ho hb hg hat; obtain ⟨A5, c5, rfl⟩ := Kd.R_slice ho; rw [List.nil_append] at ho; have HO5 := Aside0.mk ho; have HB5 := Aside0.mk hb; clear ho hb hg hat)
        | (go_at_call 13; refine (crash_calls w.heap.size g (D2 l1 l2) w _ (HD.out.below HB5.out) (HB.out.trans (HB5.out.mono HB.out.size)) (Nat.le_refl _) (by rw [HLV.out.cnt]; have := HTK.out; omega) A5 c5 l3 (fun W' h1 _ => lies_bool HO5.out W' h1)).mono ?_; rintro e w6 ⟨rfl, h1, h2, h3⟩; have HW6 := Aside0.mk (h3.2 gw _ _ _ (blk_below HW.out HB5.out) (by decide) (by decide)); clear HD HB HW; have HD := Aside0.mk (show IsD w.heap.size w6 g (D3 l1 l2 l3) from h1); have HB := Aside0.mk h2; have HW := HW6; clear HW6 h1 h2 h3 HO HO5 HB3 HB5))
       clear INF HLV HTK H3C
       go_wp2_with fail
       go_loopw [12] (fun x wr => ∃ k : Nat, k ≤ 8 ∧ x = .int .i64 k ∧ Aside0 (IsD w.heap.size wr g (D3 l1 l2 l3)) ∧ Aside0 (Below w.heap.size w wr) ∧ Aside0 (wr.heap[gw]? = some (.cells (wasC (D1 l1) 8) 33 (0, 0)))) (fun x _ => 8 - (intOf x).toNat)
       case atStart => exact ⟨0, by decide, rfl, HD, HB, HW⟩
       case round =>
        obtain ⟨k, hk, rfl, HDk, HBk, HWk⟩ := hrel
        by_cases hlt : k < 8
        · have e1 : decide ((k : Int) < 8) = true := decide_eq_true (by omega)
          have e2 : decide (k < 8) = true := decide_eq_true hlt
          have I7 := Aside0.mk (show I64 (k : Int) from ⟨by omega, by omega⟩)
          go_upto_block 8 with (first
            | (go_at_call 12; refine (bytes_calls w.heap.size g (D3 l1 l2 l3) (k : Int) I7.out _ HDk.out).mono ?_; rintro e w7 ⟨v, rfl, h1, h2⟩; obtain ⟨A7, c7, rfl, _, hC7⟩ := Kd.R_reads h1; have hcv := bytes_string (c := c7) hC7; have HD7 := Aside0.mk (HDk.out.below h2); have HB7 := Aside0.mk (HBk.out.trans (h2.mono HBk.out.size)); have HW7 := Aside0.mk (blk_below HWk.out h2); have cw : w7.cell? ⟨gw, k, none⟩ = some (.string (strOfNums (bytesD (D1 l1) (k : Int)))) := (blk_cell HW7.out k).trans ((wasC_at (D1 l1) 8 k hlt).trans (by rw [wasS_lt _ hlt])); clear h1 h2 hC7))
          clear hcv cw
          go_cut [14, 15] from 99 to 137 (fun s14 s15 wx => s14 = .bool true ∧ Aside0 (IsD w.heap.size wx g (D3 l1 l2 l3)) ∧ Aside0 (Below w.heap.size w wx) ∧ Aside0 (wx.heap[gw]? = some (.cells (wasC (D1 l1) 8) 33 (0, 0))))
          case rest =>
            obtain ⟨h14, HD1, HB1, HW1⟩ := hcut
            subst h14
            go_wp2
            go_roundw
            case rel => exact ⟨k + 1, by omega, by go_num, HD1, HB1, HW1⟩
            case measure => simp [intOf]; omega
          case first =>
            go_wp2_with fail
            go_loopw [14, 15] (fun y x wr => ∃ (kk : Nat) (b : Bool), kk ≤ n2 ∧ kk ≤ 20 ∧ x = .int .i64 kk ∧ y = .bool b ∧ Aside0 (Fits (D3 l1 l2 l3) (D1 l1) (k : Int) (l2.take kk) → b = true) ∧ Aside0 (IsD w.heap.size wr g (D3 l1 l2 l3)) ∧ Aside0 (Below w.heap.size w wr) ∧ Aside0 (wr.heap[gw]? = some (.cells (wasC (D1 l1) 8) 33 (0, 0)))) (fun _ x _ => n2 - (intOf x).toNat)
            case atStart => exact ⟨0, _, Nat.zero_le _, by decide, rfl, rfl, ⟨fits_nil⟩, HD7, HB7, HW7⟩
            case round =>
              obtain ⟨kk, b, hkk, hkk2, rfl, rfl, HFk, HDk, HBk, HWk⟩ := hrel
              by_cases hlt2 : kk < n2 ∧ kk < 20
              · obtain ⟨hx1, hx2⟩ := hlt2
                have e1 : decide ((kk : Int) < n2) = true := decide_eq_true (by omega)
                have e2 : decide ((kk : Int) < 20) = true := decide_eq_true (by omega)
                have hat := act_at (Kd.C_below H2.out HBk.out) kk (by rw [← N2.out]; exact hx1)
                obtain ⟨a, ha⟩ : ∃ a, a = l2.getD kk act0 := ⟨_, rfl⟩
                rw [← ha] at hat
                obtain ⟨ad, AB, cB, hA, hc1, hc2, hle, hC⟩ := hat
                subst hA
                have HA := Aside0.mk ha
                have HC := Aside0.mk hC
                have HLE := Aside0.mk hle
                rw [add_off _ _ 1 (by decide)] at hc1
                rw [add_off _ _ 2 (by decide)] at hc2
                have HC1 := Aside0.mk hc1
                clear ha hC hle
                go_upto_region 28 with (first
                  | (go_at_call 10; refine (short_calls AB cB a.2.2.1 _ HC.out HLE.out).mono ?_; rintro e w9 ⟨v9, rfl, h4, h5⟩; obtain ⟨A9, c9, rfl⟩ := Kd.R_slice h4; have HR9 := Aside0.mk h4; have HS9 := Aside0.mk h5; have HD9 := Aside0.mk (HDk.out.below h5); have HB9 := Aside0.mk (HBk.out.trans (h5.mono HBk.out.size)); have HW9 := Aside0.mk (blk_below HWk.out h5); have hc9 := cell_on HC1.out h5; clear h4 h5))
                cases b with
                | true =>
                  go_wp2
                  go_roundw
                  case rel => exact ⟨kk + 1, true, by omega, by omega, by go_num, rfl, ⟨fun _ => rfl⟩, HD9, HB9, HW9⟩
                  case measure => simp [intOf]; omega
                | false =>
                  by_cases hk7 : and7 a.2.1 = (k : Int)
                  · have info5 : (Try.prog.info? 5).map (fun i => (i.zero, i.size, i.bytes)) = some (some (.int .u8 0), 1, 1) := by kernel_rfl
                    have INF := Aside0.mk info5
                    have HT9 := Aside0.mk (show (a.2.2.1.take 512).length ≤ 512 by rw [List.length_take]; omega)
                    obtain ⟨bt, hbt⟩ : ∃ bt, bt = a.2.2.1.take 512 := ⟨_, rfl⟩
                    rw [← hbt] at HR9 HT9
                    rw [show min 512 a.2.2.1.length = bt.length by rw [hbt, List.length_take]]
                    obtain ⟨_, _, hsl, hle9, hC9⟩ := Kd.R_reads HR9.out
                    injection hsl with hA9 hn9 hc9'
                    subst hA9
                    have HC9 := Aside0.mk hC9
                    have HBT := Aside0.mk hbt
                    clear info5 hbt hle9 hC9
                    obtain ⟨nb, hnb⟩ : ∃ nb, nb = bt.length := ⟨_, rfl⟩
                    rw [← hnb]
                    have HNB := Aside0.mk hnb
                    have hnb2 : nb ≤ 512 := by rw [hnb]; exact HT9.out
                    have I512 : IntKind.i64.wrap (512 - (nb : Int)) = 512 - (nb : Int) := by rw [IntKind.wrap_i64]; omega
                    clear hnb
                    go_wp2_with (first
                      | ((with_reducible refine gate_dst (N := 127) rfl ?_); (refine gate_guard (by rfl) ?_; dsimp only); refine Kd.R_lit (Kd.int .u8) w9.heap.size 5 ?hg (N := 127) ?hd (xs := ([] : List Int)) (inner := []) (ok := fun _ => True) (okp := fun _ => True) ?hr ?hp (fun _ hk => hk) trivial (Below.refl _ _) (Nat.le_refl _) (by simp) ?_; (case hd => rfl); (case hg => rfl); (case hr => first | (go_simp; done) | (go_simp; rfl)); (case hp => exact (Reps.none _ _)); intro v3 w10 ho4 hb hg_ hnew_; clear hg_ hnew_; have HO := Aside0.mk ho4; have HB10 := Aside0.mk hb; clear hb ho4)
                      | ((with_reducible refine gate_dst (N := 129) rfl ?_); (refine gate_guard (by rfl) ?_; dsimp only); at_builtin; refine Kd.R_append_rows (Kd.int .u8) (w0 := w9) w9.heap.size rfl (.tmp 127) (.tmp 128) 28 5 (.int .u8 0) 1 rfl Try.underlying28 INF.out rfl (by decide) (by omega) v3 [] bt _ _ _ (fun _ => True) (fun _ => False) rfl (by rw [HNB.out]; rfl) ?aO ?aR (fun _ _ h => h) (fun _ h => h.elim) ?aF ?aB ?aS ?aL ?_; (case aR => exact Kd.C_below HC9.out HB10.out); (case aB => exact HB10.out); (case aF => exact (fun _ _ => trivial)); (case aO => exact HO.out); (case aS => exact HB10.out.size); (case aL => have := HT9.out; simp; omega); intro v5 w11 ho hb hg hat; rw [List.nil_append] at ho; have HO11 := Aside0.mk ho; have HB11 := Aside0.mk hb; clear ho hb hg hat)
                      | ((with_reducible refine gate_dst (N := 133) rfl ?_); (refine gate_guard (by rfl) ?_; dsimp only); at_builtin; refine Kd.R_append_zeros (Kd.int .u8) (w0 := w9) w9.heap.size rfl (.tmp 129) (.tmp 132) 28 3 5 (.int .u8 0) 1 rfl Try.underlying28 Try.underlying3 INF.out rfl (by decide) (by decide) v5 bt 0 (kx := .i64) (512 - (nb : Int)) (fun _ => True) rfl rfl ?aZ (fun _ _ => trivial) HO11.out (by omega) HB11.out HB11.out.size ?aL ?_; (case aZ => rfl); (case aL => have := HT9.out; simp; omega); intro v6 w12 ho hb hg hat; obtain ⟨A12, c12, rfl, _, hC12⟩ := Kd.R_reads ho; have hcv := pad_string (c := c12) HNB.out hC12; have HB12 := Aside0.mk hb; clear ho hb hg hat hC12))
                    go_roundw
                    case rel => exact ⟨kk + 1, _, by omega, by omega, by go_num, rfl, by rw [HBT.out]; exact fits_next_eq HFk (by rw [← N2.out]; exact hx1) HA, ⟨HD9.out.below HB12.out⟩, ⟨HB9.out.trans (HB12.out.mono HB9.out.size)⟩, ⟨blk_below HW9.out HB12.out⟩⟩
                    case measure => simp [intOf]; omega
                  · go_wp2_with fail
                    go_roundw
                    case rel => exact ⟨kk + 1, false, by omega, by omega, by go_num, rfl, fits_next_ne HFk (by rw [← N2.out]; exact hx1) HA hk7, HD9, HB9, HW9⟩
                    case measure => simp [intOf]; omega
              · have hT : l2.take kk = l2.take 20 := by
                  have hl := N2.out
                  by_cases hk20 : kk = 20
                  · rw [hk20]
                  · rw [List.take_of_length_le (by omega), List.take_of_length_le (by omega)]
                rw [hT] at HFk
                obtain rfl : b = true := HFk.out (sector_at l1 l2 l3 (k : Int) (by omega) (by omega))
                by_cases hlt1 : kk < n2
                · have e1 : decide ((kk : Int) < n2) = true := decide_eq_true (by omega)
                  have e2 : decide ((kk : Int) < 20) = false := decide_eq_false (by omega)
                  go_wp2_with fail
                  go_meet
                  case rel => exact ⟨rfl, HDk, HBk, HWk⟩
                · have e1 : decide ((kk : Int) < n2) = false := decide_eq_false (by omega)
                  go_wp2_with fail
                  go_meet
                  case rel => exact ⟨rfl, HDk, HBk, HWk⟩
        · have e1 : decide ((k : Int) < 8) = false := decide_eq_false (by omega)
          go_wp2_with (first
            | (go_at_call 14; refine (lives_calls _).mono ?_; rintro e w8 ⟨rfl, h2⟩; have HB8 := Aside0.mk (HBk.out.trans (h2.mono HBk.out.size)); clear h2))
          go_ret
          exact ⟨rfl, HB8.out⟩
      case first =>
       go_wp2_with fail
       go_loopw [11] (fun x wr => ∃ k : Nat, k ≤ n2 ∧ k ≤ 20 ∧ x = .int .i64 k ∧ Aside0 (IsD w.heap.size wr g (puts (D1 l1) (l2.take k))) ∧ Aside0 (Below w.heap.size w wr) ∧ Aside0 (wr.heap[gw]? = some (.cells (wasC (D1 l1) 8) 33 (0, 0)))) (fun x _ => n2 - (intOf x).toNat)
       case atStart => exact ⟨0, Nat.zero_le _, by decide, rfl, HD, HB, HW⟩
       case round =>
         obtain ⟨k, hk, hk2, rfl, HDk, HBk, HWk⟩ := hrel
         by_cases hlt : k < n2 ∧ k < 20
         · obtain ⟨hx8, hx2⟩ := hlt
           have e1 : decide ((k : Int) < n2) = true := decide_eq_true (by omega)
           have e2 : decide ((k : Int) < 20) = true := decide_eq_true (by omega)
           have hat := act_at (Kd.C_below H2.out HBk.out) k (by rw [← N2.out]; exact hx8)
           obtain ⟨a, ha⟩ : ∃ a, a = l2.getD k act0 := ⟨_, rfl⟩
           rw [← ha] at hat
           obtain ⟨ad, AB, cB, hA, hc1, hc2, hle, hC⟩ := hat
           subst hA
           have HA := Aside0.mk ha
           have HC := Aside0.mk hC
           clear ha hC
           have HC1 := Aside0.mk hc1
           have HC2 := Aside0.mk hc2
           have HLE := Aside0.mk hle
           have HOK := Aside0.mk (show OkB a.2.2.1 by rw [HA.out]; exact okl_at O2.out k (by rw [← N2.out]; exact hx8))
           have HLV := Aside0.mk (puts_live (D1_live l1) (l2.take k))
           have HTK := Aside0.mk (show (l2.take k).length ≤ 20 by rw [List.length_take]; omega)
           clear hc1 hc2 hle
           go_wp2
           refine start_ (n := 14) (S := fun w' => w'.cell? (ad.add (k * 4 + 1)) = some (.int .i64 a.2.1) ∧ w'.cell? (ad.add (k * 4 + 2)) = some (.slice AB a.2.2.1.length cB)) (ds := [13]) #[false, false, false, false, false, false, false, false, false, false, false, false, false, false] (by kernel_rfl) rfl rfl ⟨HC1.out, HC2.out⟩ (fun hHeld => ?_)
           refine pure_ (i := 0) (N := some 67) (v := ?_) (a' := ?_) #[true, false, false, false, false, false, false, false, false, false, false, false, false, false] rfl rfl (by kernel_rfl) (fun _ _ _ h => h) (Or.inl ⟨by rfl, ?_⟩) ?_ ?_
           rotate_left
           · intro w'
             go_simp
             with_reducible rfl
           rotate_left
           · simp only [Act.put, List.setIfInBounds_toArray, List.set_cons_zero, List.set_cons_succ]
             rfl
           refine pure_ (i := 1) (N := some 68) (v := ?_) (a' := ?_) #[true, true, false, false, false, false, false, false, false, false, false, false, false, false] rfl rfl (by kernel_rfl) (fun _ _ _ h => h) (Or.inl ⟨by rfl, ?_⟩) ?_ ?_
           rotate_left
           · intro w'
             go_simp
             with_reducible rfl
           rotate_left
           · simp only [Act.put, List.setIfInBounds_toArray, List.set_cons_zero, List.set_cons_succ]
             rfl
           refine pure_ (i := 2) (N := some 69) (v := ?_) (a' := ?_) #[true, true, true, false, false, false, false, false, false, false, false, false, false, false] rfl rfl (by kernel_rfl) (fun _ _ _ h => h) (Or.inl ⟨by rfl, ?_⟩) ?_ ?_
           rotate_left
           · intro w'
             go_simp
             with_reducible rfl
           rotate_left
           · simp only [Act.put, List.setIfInBounds_toArray, List.set_cons_zero, List.set_cons_succ]
             rfl
           refine pure_ (i := 3) (N := some 70) (v := ?_) (a' := ?_) #[true, true, true, true, false, false, false, false, false, false, false, false, false, false] rfl rfl (by kernel_rfl) (fun _ _ _ h => h) (Or.inl ⟨by rfl, ?_⟩) ?_ ?_
           rotate_left
           · intro w'
             go_simp
             with_reducible rfl
           rotate_left
           · simp only [Act.put, List.setIfInBounds_toArray, List.set_cons_zero, List.set_cons_succ]
             rfl
           refine pure_ (i := 4) (N := some 71) (v := ?_) (a' := ?_) #[true, true, true, true, true, false, false, false, false, false, false, false, false, false] rfl rfl (by kernel_rfl) (fun _ _ _ h => h) (Or.inl ⟨by rfl, ?_⟩) ?_ ?_
           rotate_left
           · intro w'
             go_simp
             with_reducible rfl
           rotate_left
           · simp only [Act.put, List.setIfInBounds_toArray, List.set_cons_zero, List.set_cons_succ]
             rfl
           refine take_ (i := 5) (N := some 72) (v := ?_) (a' := ?_) #[true, true, true, true, true, true, false, false, false, false, false, false, false, false] rfl rfl (by kernel_rfl) (fun _ _ _ h => h) (Or.inl ⟨by rfl, ?_⟩) hHeld ?_ ?_
           rotate_left
           · rintro w' ⟨s0, s1⟩
             rw [add_off _ _ 1 (by decide)] at s0
             rw [add_off _ _ 2 (by decide)] at s1
             go_simp
             with_reducible rfl
           rotate_left
           · simp only [Act.put, List.setIfInBounds_toArray, List.set_cons_zero, List.set_cons_succ]
             rfl
           refine pure_ (i := 6) (N := some 73) (v := .int .i64 (and7 a.2.1)) (a' := ?_) #[true, true, true, true, true, true, true, false, false, false, false, false, false, false] rfl rfl (by kernel_rfl) (fun _ _ _ h => h) (Or.inl ⟨by rfl, ?_⟩) ?_ ?_
           · intro w'
             rfl
           rotate_left
           · simp only [Act.put, List.setIfInBounds_toArray, List.set_cons_zero, List.set_cons_succ]
             rfl
           refine pure_ (i := 7) (N := some 74) (v := ?_) (a' := ?_) #[true, true, true, true, true, true, true, true, false, false, false, false, false, false] rfl rfl (by kernel_rfl) (fun _ _ _ h => h) (Or.inl ⟨by rfl, ?_⟩) ?_ ?_
           rotate_left
           · intro w'
             go_simp
             with_reducible rfl
           rotate_left
           · simp only [Act.put, List.setIfInBounds_toArray, List.set_cons_zero, List.set_cons_succ]
             rfl
           refine pure_ (i := 8) (N := some 75) (v := ?_) (a' := ?_) #[true, true, true, true, true, true, true, true, true, false, false, false, false, false] rfl rfl (by kernel_rfl) (fun _ _ _ h => h) (Or.inl ⟨by rfl, ?_⟩) ?_ ?_
           rotate_left
           · intro w'
             go_simp
             with_reducible rfl
           rotate_left
           · simp only [Act.put, List.setIfInBounds_toArray, List.set_cons_zero, List.set_cons_succ]
             rfl
           refine pure_ (i := 9) (N := some 76) (v := ?_) (a' := ?_) #[true, true, true, true, true, true, true, true, true, true, false, false, false, false] rfl rfl (by kernel_rfl) (fun _ _ _ h => h) (Or.inl ⟨by rfl, ?_⟩) ?_ ?_
           rotate_left
           · intro w'
             go_simp
             with_reducible rfl
           rotate_left
           · simp only [Act.put, List.setIfInBounds_toArray, List.set_cons_zero, List.set_cons_succ]
             rfl
           refine pure_ (i := 10) (N := some 77) (v := ?_) (a' := ?_) #[true, true, true, true, true, true, true, true, true, true, true, false, false, false] rfl rfl (by kernel_rfl) (fun _ _ _ h => h) (Or.inl ⟨by rfl, ?_⟩) ?_ ?_
           rotate_left
           · intro w'
             go_simp
             with_reducible rfl
           rotate_left
           · simp only [Act.put, List.setIfInBounds_toArray, List.set_cons_zero, List.set_cons_succ]
             rfl
           refine take_ (i := 11) (N := some 78) (v := ?_) (a' := ?_) #[true, true, true, true, true, true, true, true, true, true, true, true, false, false] rfl rfl (by kernel_rfl) (fun _ _ _ h => h) (Or.inl ⟨by rfl, ?_⟩) hHeld ?_ ?_
           rotate_left
           · rintro w' ⟨s0, s1⟩
             rw [add_off _ _ 1 (by decide)] at s0
             rw [add_off _ _ 2 (by decide)] at s1
             go_simp
             with_reducible rfl
           rotate_left
           · simp only [Act.put, List.setIfInBounds_toArray, List.set_cons_zero, List.set_cons_succ]
             rfl
           refine one_ (i := 12) (N := some 79) #[true, true, true, true, true, true, true, true, true, true, true, true, true, false] rfl rfl (by kernel_rfl) (by decide) (fun K hK => ?_)
           refine goes_ Try.func10 (by kernel_rfl) rfl #[.slice AB a.2.2.1.length cB] (by rfl) rfl rfl (by (try simp only [List.map_toArray, List.map_cons, List.map_nil]); first | done | rfl) ?_
           refine (short_calls AB cB a.2.2.1 _ (Kd.C_drew HC.out) HLE.out).mono ?_
           rintro e w7 ⟨v7, rfl, h4, h5⟩
           refine ⟨v7, rfl, ?_⟩
           obtain ⟨A7, c7, rfl⟩ := Kd.R_slice h4
           have HR7 := Aside0.mk h4
           have HB7 := Aside0.mk ((below_drew (Below.refl _ _)).trans h5)
           clear h4 h5
           refine hK.out _ _ ⟨cell_on HC1.out HB7.out, cell_on HC2.out HB7.out⟩ (fun hHeld => ?_)
           clear hK K
           refine last_ (i := 13) (N := some 80) #[true, true, true, true, true, true, true, true, true, true, true, true, true, true] rfl rfl (by kernel_rfl) (by decide) (fun K hK => ?_)
           refine goes_ Try.func9 (by kernel_rfl) rfl #[.pointer (some ⟨g, 0, none⟩), .int .i64 (and7 a.2.1), .slice A7 (a.2.2.1.take 512).length c7] (by rfl) rfl rfl (by (try simp only [List.map_toArray, List.map_cons, List.map_nil]); first | done | rfl) ?_
           refine (write_yes w.heap.size g _ (and7 a.2.1) A7 c7 (a.2.2.1.take 512) w _ (HDk.out.below HB7.out) (HBk.out.trans (HB7.out.mono HBk.out.size)) (lies_of_R HR7.out) (okb_take HOK.out 512) (by rw [write_live HLV.out]) (by rw [HLV.out.cnt]; have := HTK.out; have := HT1.out; omega) (Nat.le_refl _)).mono ?_
           rintro e w8 ⟨rfl, h4, h5, h6⟩
           refine ⟨_, rfl, ?_⟩
           have HD8 := Aside0.mk h4
           have HB8 := Aside0.mk h5; have HW8 := Aside0.mk (h6.2 gw _ _ _ (blk_below HWk.out HB7.out) (by decide) (by decide)); clear h6
           clear h4 h5
           refine hK.out _ _ ?_
           clear hK K
           refine done_ (by kernel_rfl) ?_
           go_wp2
           go_roundw
           case rel =>
             refine ⟨k + 1, by omega, by omega, by go_num, ⟨?_⟩, HB8, HW8⟩
             rw [puts_take _ _ _ (by rw [← N2.out]; exact hx8), ← HA.out]
             exact HD8.out
           case measure => simp [intOf]; omega
         · have hT : l2.take k = l2.take 20 := by
             have hl := N2.out
             by_cases hk20 : k = 20
             · rw [hk20]
             · rw [List.take_of_length_le (by omega), List.take_of_length_le (by omega)]
           rw [hT] at HDk
           by_cases hlt1 : k < n2
           · have e1 : decide ((k : Int) < n2) = true := decide_eq_true (by omega)
             have e2 : decide ((k : Int) < 20) = false := decide_eq_false (by omega)
             go_wp2_with fail
             go_meet
             case rel => exact ⟨HDk, HBk, HWk⟩
           · have e1 : decide ((k : Int) < n2) = false := decide_eq_false (by omega)
             go_wp2_with fail
             go_meet
             case rel => exact ⟨HDk, HBk, HWk⟩
  case first =>
   go_wp2_with fail
   go_loopw [8] (fun x wr => ∃ k : Nat, k ≤ n1 ∧ k ≤ 20 ∧ x = .int .i64 k ∧ Aside0 (IsD w.heap.size wr g (puts D0 (l1.take k))) ∧ Aside0 (Below w.heap.size w wr)) (fun x _ => n1 - (intOf x).toNat)
   case atStart => exact ⟨0, Nat.zero_le _, by decide, rfl, HD, HB⟩
   case round =>
     obtain ⟨k, hk, hk2, rfl, HDk, HBk⟩ := hrel
     by_cases hlt : k < n1 ∧ k < 20
     · obtain ⟨hx1, hx2⟩ := hlt
       have e1 : decide ((k : Int) < n1) = true := decide_eq_true (by omega)
       have e2 : decide ((k : Int) < 20) = true := decide_eq_true (by omega)
       have hat := act_at (Kd.C_below H1.out HBk.out) k (by rw [← N1.out]; exact hx1)
       obtain ⟨a, ha⟩ : ∃ a, a = l1.getD k act0 := ⟨_, rfl⟩
       rw [← ha] at hat
       obtain ⟨ad, AB, cB, hA, hc1, hc2, hle, hC⟩ := hat
       subst hA
       have HA := Aside0.mk ha
       have HC := Aside0.mk hC
       clear ha hC
       have HC1 := Aside0.mk hc1
       have HC2 := Aside0.mk hc2
       have HLE := Aside0.mk hle
       have HOK := Aside0.mk (show OkB a.2.2.1 by rw [HA.out]; exact okl_at O1.out k (by rw [← N1.out]; exact hx1))
       have HLV := Aside0.mk (puts_live D0_live (l1.take k))
       have HTK := Aside0.mk (show (l1.take k).length ≤ 20 by rw [List.length_take]; omega)
       clear hc1 hc2 hle
       go_wp2
       refine start_ (n := 14) (S := fun w' => w'.cell? (ad.add (k * 4 + 1)) = some (.int .i64 a.2.1) ∧ w'.cell? (ad.add (k * 4 + 2)) = some (.slice AB a.2.2.1.length cB)) (ds := [13]) #[false, false, false, false, false, false, false, false, false, false, false, false, false, false] (by kernel_rfl) rfl rfl ⟨HC1.out, HC2.out⟩ (fun hHeld => ?_)
       refine pure_ (i := 0) (N := some 30) (v := ?_) (a' := ?_) #[true, false, false, false, false, false, false, false, false, false, false, false, false, false] rfl rfl (by kernel_rfl) (fun _ _ _ h => h) (Or.inl ⟨by rfl, ?_⟩) ?_ ?_
       rotate_left
       · intro w'
         go_simp
         with_reducible rfl
       rotate_left
       · simp only [Act.put, List.setIfInBounds_toArray, List.set_cons_zero, List.set_cons_succ]
         rfl
       refine pure_ (i := 1) (N := some 31) (v := ?_) (a' := ?_) #[true, true, false, false, false, false, false, false, false, false, false, false, false, false] rfl rfl (by kernel_rfl) (fun _ _ _ h => h) (Or.inl ⟨by rfl, ?_⟩) ?_ ?_
       rotate_left
       · intro w'
         go_simp
         with_reducible rfl
       rotate_left
       · simp only [Act.put, List.setIfInBounds_toArray, List.set_cons_zero, List.set_cons_succ]
         rfl
       refine pure_ (i := 2) (N := some 32) (v := ?_) (a' := ?_) #[true, true, true, false, false, false, false, false, false, false, false, false, false, false] rfl rfl (by kernel_rfl) (fun _ _ _ h => h) (Or.inl ⟨by rfl, ?_⟩) ?_ ?_
       rotate_left
       · intro w'
         go_simp
         with_reducible rfl
       rotate_left
       · simp only [Act.put, List.setIfInBounds_toArray, List.set_cons_zero, List.set_cons_succ]
         rfl
       refine pure_ (i := 3) (N := some 33) (v := ?_) (a' := ?_) #[true, true, true, true, false, false, false, false, false, false, false, false, false, false] rfl rfl (by kernel_rfl) (fun _ _ _ h => h) (Or.inl ⟨by rfl, ?_⟩) ?_ ?_
       rotate_left
       · intro w'
         go_simp
         with_reducible rfl
       rotate_left
       · simp only [Act.put, List.setIfInBounds_toArray, List.set_cons_zero, List.set_cons_succ]
         rfl
       refine pure_ (i := 4) (N := some 34) (v := ?_) (a' := ?_) #[true, true, true, true, true, false, false, false, false, false, false, false, false, false] rfl rfl (by kernel_rfl) (fun _ _ _ h => h) (Or.inl ⟨by rfl, ?_⟩) ?_ ?_
       rotate_left
       · intro w'
         go_simp
         with_reducible rfl
       rotate_left
       · simp only [Act.put, List.setIfInBounds_toArray, List.set_cons_zero, List.set_cons_succ]
         rfl
       refine take_ (i := 5) (N := some 35) (v := ?_) (a' := ?_) #[true, true, true, true, true, true, false, false, false, false, false, false, false, false] rfl rfl (by kernel_rfl) (fun _ _ _ h => h) (Or.inl ⟨by rfl, ?_⟩) hHeld ?_ ?_
       rotate_left
       · rintro w' ⟨s0, s1⟩
         rw [add_off _ _ 1 (by decide)] at s0
         rw [add_off _ _ 2 (by decide)] at s1
         go_simp
         with_reducible rfl
       rotate_left
       · simp only [Act.put, List.setIfInBounds_toArray, List.set_cons_zero, List.set_cons_succ]
         rfl
       refine pure_ (i := 6) (N := some 36) (v := .int .i64 (and7 a.2.1)) (a' := ?_) #[true, true, true, true, true, true, true, false, false, false, false, false, false, false] rfl rfl (by kernel_rfl) (fun _ _ _ h => h) (Or.inl ⟨by rfl, ?_⟩) ?_ ?_
       · intro w'
         rfl
       rotate_left
       · simp only [Act.put, List.setIfInBounds_toArray, List.set_cons_zero, List.set_cons_succ]
         rfl
       refine pure_ (i := 7) (N := some 37) (v := ?_) (a' := ?_) #[true, true, true, true, true, true, true, true, false, false, false, false, false, false] rfl rfl (by kernel_rfl) (fun _ _ _ h => h) (Or.inl ⟨by rfl, ?_⟩) ?_ ?_
       rotate_left
       · intro w'
         go_simp
         with_reducible rfl
       rotate_left
       · simp only [Act.put, List.setIfInBounds_toArray, List.set_cons_zero, List.set_cons_succ]
         rfl
       refine pure_ (i := 8) (N := some 38) (v := ?_) (a' := ?_) #[true, true, true, true, true, true, true, true, true, false, false, false, false, false] rfl rfl (by kernel_rfl) (fun _ _ _ h => h) (Or.inl ⟨by rfl, ?_⟩) ?_ ?_
       rotate_left
       · intro w'
         go_simp
         with_reducible rfl
       rotate_left
       · simp only [Act.put, List.setIfInBounds_toArray, List.set_cons_zero, List.set_cons_succ]
         rfl
       refine pure_ (i := 9) (N := some 39) (v := ?_) (a' := ?_) #[true, true, true, true, true, true, true, true, true, true, false, false, false, false] rfl rfl (by kernel_rfl) (fun _ _ _ h => h) (Or.inl ⟨by rfl, ?_⟩) ?_ ?_
       rotate_left
       · intro w'
         go_simp
         with_reducible rfl
       rotate_left
       · simp only [Act.put, List.setIfInBounds_toArray, List.set_cons_zero, List.set_cons_succ]
         rfl
       refine pure_ (i := 10) (N := some 40) (v := ?_) (a' := ?_) #[true, true, true, true, true, true, true, true, true, true, true, false, false, false] rfl rfl (by kernel_rfl) (fun _ _ _ h => h) (Or.inl ⟨by rfl, ?_⟩) ?_ ?_
       rotate_left
       · intro w'
         go_simp
         with_reducible rfl
       rotate_left
       · simp only [Act.put, List.setIfInBounds_toArray, List.set_cons_zero, List.set_cons_succ]
         rfl
       refine take_ (i := 11) (N := some 41) (v := ?_) (a' := ?_) #[true, true, true, true, true, true, true, true, true, true, true, true, false, false] rfl rfl (by kernel_rfl) (fun _ _ _ h => h) (Or.inl ⟨by rfl, ?_⟩) hHeld ?_ ?_
       rotate_left
       · rintro w' ⟨s0, s1⟩
         rw [add_off _ _ 1 (by decide)] at s0
         rw [add_off _ _ 2 (by decide)] at s1
         go_simp
         with_reducible rfl
       rotate_left
       · simp only [Act.put, List.setIfInBounds_toArray, List.set_cons_zero, List.set_cons_succ]
         rfl
       refine one_ (i := 12) (N := some 42) #[true, true, true, true, true, true, true, true, true, true, true, true, true, false] rfl rfl (by kernel_rfl) (by decide) (fun K hK => ?_)
       refine goes_ Try.func10 (by kernel_rfl) rfl #[.slice AB a.2.2.1.length cB] (by rfl) rfl rfl (by (try simp only [List.map_toArray, List.map_cons, List.map_nil]); first | done | rfl) ?_
       refine (short_calls AB cB a.2.2.1 _ (Kd.C_drew HC.out) HLE.out).mono ?_
       rintro e w7 ⟨v7, rfl, h4, h5⟩
       refine ⟨v7, rfl, ?_⟩
       obtain ⟨A7, c7, rfl⟩ := Kd.R_slice h4
       have HR7 := Aside0.mk h4
       have HB7 := Aside0.mk ((below_drew (Below.refl _ _)).trans h5)
       clear h4 h5
       refine hK.out _ _ ⟨cell_on HC1.out HB7.out, cell_on HC2.out HB7.out⟩ (fun hHeld => ?_)
       clear hK K
       refine last_ (i := 13) (N := some 43) #[true, true, true, true, true, true, true, true, true, true, true, true, true, true] rfl rfl (by kernel_rfl) (by decide) (fun K hK => ?_)
       refine goes_ Try.func9 (by kernel_rfl) rfl #[.pointer (some ⟨g, 0, none⟩), .int .i64 (and7 a.2.1), .slice A7 (a.2.2.1.take 512).length c7] (by rfl) rfl rfl (by (try simp only [List.map_toArray, List.map_cons, List.map_nil]); first | done | rfl) ?_
       refine (write_yes w.heap.size g _ (and7 a.2.1) A7 c7 (a.2.2.1.take 512) w _ (HDk.out.below HB7.out) (HBk.out.trans (HB7.out.mono HBk.out.size)) (lies_of_R HR7.out) (okb_take HOK.out 512) (by rw [write_live HLV.out]) (by rw [HLV.out.cnt]; have := HTK.out; omega) (Nat.le_refl _)).mono ?_
       rintro e w8 ⟨rfl, h4, h5, _⟩
       refine ⟨_, rfl, ?_⟩
       have HD8 := Aside0.mk h4
       have HB8 := Aside0.mk h5
       clear h4 h5
       refine hK.out _ _ ?_
       clear hK K
       refine done_ (by kernel_rfl) ?_
       go_wp2
       go_roundw
       case rel =>
         refine ⟨k + 1, by omega, by omega, by go_num, ⟨?_⟩, HB8⟩
         rw [puts_take _ _ _ (by rw [← N1.out]; exact hx1), ← HA.out]
         exact HD8.out
       case measure => simp [intOf]; omega
     · have hT : l1.take k = l1.take 20 := by
         have hl := N1.out
         by_cases hk20 : k = 20
         · rw [hk20]
         · rw [List.take_of_length_le (by omega), List.take_of_length_le (by omega)]
       rw [hT] at HDk
       by_cases hlt1 : k < n1
       · have e1 : decide ((k : Int) < n1) = true := decide_eq_true (by omega)
         have e2 : decide ((k : Int) < 20) = false := decide_eq_false (by omega)
         go_wp2_with fail
         go_meet
         case rel => exact ⟨HDk, HBk⟩
       · have e1 : decide ((k : Int) < n1) = false := decide_eq_false (by omega)
         go_wp2_with fail
         go_meet
         case rel => exact ⟨HDk, HBk⟩
end Go.Proofs.Ytnaegemldpfllaa.Dis
