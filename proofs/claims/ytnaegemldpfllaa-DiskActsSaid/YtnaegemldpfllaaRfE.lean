/- The answer's disk: Write, walked by hand (written by mkref.py). -/
import Derived.Test.YtnaegemldpfllaaRfD
namespace Go.Proofs.Ytnaegemldpfllaa.Dis
open Go.RowKit Go.Proofs.YtnaegemldpfllaaW.PrintWords Go.Proofs.YtnaegemldpfllaaW.PrintLast Go.Proofs.YtnaegemldpfllaaW.PrintMore Go.Maps
set_option linter.unusedVariables false
set_option linter.unusedSimpArgs false
def writeR (r : Rf) (i : Int) (b : List Int) : Rf × Int :=
  if (callR r).2 = false then ((callR r).1, 190) else if i < 0 then ((callR r).1, 1) else if (callR r).1.n ≤ i then ((callR r).1, 8) else if 512 < b.length then ((callR r).1, 2)
  else ({ (callR r).1 with to_ := (callR r).1.to_ ++ [i], ws := (callR r).1.ws ++ [pad b] }, 0)
theorem callR_same (r : Rf) : (callR r).1.n = r.n ∧ (callR r).1.at_ = r.at_ ∧ (callR r).1.b = r.b ∧ (callR r).1.to_ = r.to_ ∧ (callR r).1.ws = r.ws ∧ (callR r).1.left = r.left - 1 ∧ (callR r).1.armed = r.armed := by
  unfold callR
  split <;> exact ⟨rfl, rfl, rfl, rfl, rfl, rfl, rfl⟩
set_option maxHeartbeats 4000000 in
set_option maxRecDepth 100000 in
theorem rwrite_calls (base g : Nat) (r : Rf) (i : Int) (Ab : Option Addr) (cb : Nat) (b : List Int) (w W : World) (h : IsRf base W g r) (hB : Below base w W) (hl : -9223372036854775808 < r.left ∧ r.left ≤ 9223372036854775807) (hC : ∀ W', Below base w W' → Kd.C (Kd.int .u8) W' Ab b.length b) (hlen : r.to_.length ≤ 1000000 ∧ r.ws.length ≤ 1000000) :
    Calls Try.prog 35 #[.pointer (some ⟨g, 0, none⟩), .int .i64 i, .slice Ab b.length cb] W fun e w' => e = .returned (.int .i64 (writeR r i b).2) ∧ IsRf base w' g (writeR r i b).1 ∧ Below base w w' ∧ KeepR W w' := by
  have info3 : (Try.prog.info? 3).map (fun i => (i.zero, i.size, i.bytes)) = some (some (.int .i64 0), 1, 8) := by kernel_rfl
  have INF3 := Aside0.mk info3
  have info28 : (Try.prog.info? 28).map (fun i => (i.zero, i.size, i.bytes)) = some (some (.slice none 0 0), 1, 24) := by kernel_rfl
  have INF28 := Aside0.mk info28
  clear info3 info28
  have HCL := Aside0.mk (rcall_calls base g r w W h hB hl)
  obtain ⟨hn1, ha1, hb1, ht1, hw1, _, _⟩ := callR_same r
  have HLN := Aside0.mk (show (callR r).1.to_.length ≤ 1000000 ∧ (callR r).1.ws.length ≤ 1000000 by rw [ht1, hw1]; exact hlen)
  have HCB := Aside0.mk hC
  clear h hB hl hC hlen hn1 ha1 hb1 ht1 hw1
  unfold writeR
  obtain ⟨ok, hok⟩ : ∃ ok, ok = (callR r).2 := ⟨_, rfl⟩
  obtain ⟨r1, hr1⟩ : ∃ r1, r1 = (callR r).1 := ⟨_, rfl⟩
  rw [← hok, ← hr1] at HCL ⊢
  rw [← hr1] at HLN
  clear hok hr1
  cases ok with
  | false =>
    rw [if_pos rfl]
    go_enter Try.func35, Try.ntmps35
    go_wp2_with (first
      | (go_at_call 41; refine HCL.out.mono ?_; rintro e w2 ⟨rfl, h4, h5, h6⟩; have HD2 := Aside0.mk h4; have HB2 := Aside0.mk h5; have HK2 := Aside0.mk h6; have cn : w2.cell? ⟨g, 0, none⟩ = some (.int .i64 r1.n) := (by obtain ⟨_, _, _, _, h7⟩ := h4; exact (blk_cell h7.blk 0).trans rfl); clear h4 h5 h6))
    go_ret
    exact ⟨rfl, HD2.out, HB2.out, HK2.out⟩
  | true =>
    rw [if_neg (by simp)]
    by_cases h1 : i < 0
    · rw [if_pos h1]
      have e1 : decide (i < 0) = true := decide_eq_true h1
      go_enter Try.func35, Try.ntmps35
      go_wp2_with (first
        | (go_at_call 41; refine HCL.out.mono ?_; rintro e w2 ⟨rfl, h4, h5, h6⟩; have HD2 := Aside0.mk h4; have HB2 := Aside0.mk h5; have HK2 := Aside0.mk h6; have cn : w2.cell? ⟨g, 0, none⟩ = some (.int .i64 r1.n) := (by obtain ⟨_, _, _, _, h7⟩ := h4; exact (blk_cell h7.blk 0).trans rfl); clear h4 h5 h6))
      go_ret
      exact ⟨rfl, HD2.out, HB2.out, HK2.out⟩
    · rw [if_neg h1]
      have e1 : decide (i < 0) = false := decide_eq_false h1
      by_cases h2 : r1.n ≤ i
      · rw [if_pos h2]
        have e2 : decide (r1.n ≤ i) = true := decide_eq_true h2
        go_enter Try.func35, Try.ntmps35
        go_wp2_with (first
          | (go_at_call 41; refine HCL.out.mono ?_; rintro e w2 ⟨rfl, h4, h5, h6⟩; have HD2 := Aside0.mk h4; have HB2 := Aside0.mk h5; have HK2 := Aside0.mk h6; have cn : w2.cell? ⟨g, 0, none⟩ = some (.int .i64 r1.n) := (by obtain ⟨_, _, _, _, h7⟩ := h4; exact (blk_cell h7.blk 0).trans rfl); clear h4 h5 h6))
        go_ret
        exact ⟨rfl, HD2.out, HB2.out, HK2.out⟩
      · rw [if_neg h2]
        have e2 : decide (r1.n ≤ i) = false := decide_eq_false h2
        by_cases h3 : 512 < b.length
        · rw [if_pos h3]
          have e3 : decide ((512 : Int) < (b.length : Int)) = true := decide_eq_true (by omega)
          go_enter Try.func35, Try.ntmps35
          go_wp2_with (first
            | (go_at_call 41; refine HCL.out.mono ?_; rintro e w2 ⟨rfl, h4, h5, h6⟩; have HD2 := Aside0.mk h4; have HB2 := Aside0.mk h5; have HK2 := Aside0.mk h6; have cn : w2.cell? ⟨g, 0, none⟩ = some (.int .i64 r1.n) := (by obtain ⟨_, _, _, _, h7⟩ := h4; exact (blk_cell h7.blk 0).trans rfl); clear h4 h5 h6))
          go_ret
          exact ⟨rfl, HD2.out, HB2.out, HK2.out⟩
        · rw [if_neg h3]
          have e3 : decide ((512 : Int) < (b.length : Int)) = false := decide_eq_false (by omega)
          have HL5 := Aside0.mk (show b.length ≤ 512 by omega)
          go_enter Try.func35, Try.ntmps35
          go_upto_region 9 with (first
            | (go_at_call 41; refine HCL.out.mono ?_; rintro e w2 ⟨rfl, h4, h5, h6⟩; have HD2 := Aside0.mk h4; have HB2 := Aside0.mk h5; have HK2 := Aside0.mk h6; have cn : w2.cell? ⟨g, 0, none⟩ = some (.int .i64 r1.n) := (by obtain ⟨_, _, _, _, h7⟩ := h4; exact (blk_cell h7.blk 0).trans rfl); clear h4 h5 h6))
          obtain ⟨vA, vB, vT, vW, h⟩ := HD2.out
          obtain ⟨AT, cT, rfl⟩ := Kd.R_slice h.rT
          obtain ⟨AW, cW, rfl⟩ := Kd.R_slice h.rW
          have c3 : w2.cell? ⟨g, 3, none⟩ = some (.slice AT r1.to_.length cT) := (blk_cell h.blk 3).trans rfl
          have c4 : w2.cell? ⟨g, 4, none⟩ = some (.slice AW r1.ws.length cW) := (blk_cell h.blk 4).trans rfl
          have HS := Aside0.mk (h.st.below (below_drew (Below.refl w2.heap.size w2)))
          have HB := Aside0.mk (HB2.out.trans (below_drew (Below.refl base w2)))
          have HK := Aside0.mk (HK2.out.trans (KeepR.of_below (below_drew (Below.refl w2.heap.size w2))))
          clear h HCL cn
          refine start_ (n := 23) (S := fun w' => w'.cell? ⟨g, 3, none⟩ = some (.slice AT r1.to_.length cT) ∧ w'.cell? ⟨g, 4, none⟩ = some (.slice AW r1.ws.length cW)) (ds := [19, 22]) #[false, false, false, false, false, false, false, false, false, false, false, false, false, false, false, false, false, false, false, false, false, false, false] (by kernel_rfl) rfl rfl ⟨c3, c4⟩ (fun hHeld => ?_)
          refine pure_ (i := 0) (N := some 21) (v := ?_) (a' := ?_) #[true, false, false, false, false, false, false, false, false, false, false, false, false, false, false, false, false, false, false, false, false, false, false] rfl rfl (by kernel_rfl) (fun _ _ _ h => h) (Or.inl ⟨by rfl, ?_⟩) ?_ ?_
          rotate_left
          · intro w'
            go_simp
            with_reducible rfl
          rotate_left
          · simp only [Act.put, List.setIfInBounds_toArray, List.set_cons_zero, List.set_cons_succ]
            rfl
          refine pure_ (i := 1) (N := some 22) (v := ?_) (a' := ?_) #[true, true, false, false, false, false, false, false, false, false, false, false, false, false, false, false, false, false, false, false, false, false, false] rfl rfl (by kernel_rfl) (fun _ _ _ h => h) (Or.inl ⟨by rfl, ?_⟩) ?_ ?_
          rotate_left
          · intro w'
            go_simp
            with_reducible rfl
          rotate_left
          · simp only [Act.put, List.setIfInBounds_toArray, List.set_cons_zero, List.set_cons_succ]
            rfl
          refine pure_ (i := 2) (N := some 23) (v := ?_) (a' := ?_) #[true, true, true, false, false, false, false, false, false, false, false, false, false, false, false, false, false, false, false, false, false, false, false] rfl rfl (by kernel_rfl) (fun _ _ _ h => h) (Or.inl ⟨by rfl, ?_⟩) ?_ ?_
          rotate_left
          · intro w'
            go_simp
            with_reducible rfl
          rotate_left
          · simp only [Act.put, List.setIfInBounds_toArray, List.set_cons_zero, List.set_cons_succ]
            rfl
          refine pure_ (i := 3) (N := some 24) (v := ?_) (a' := ?_) #[true, true, true, true, false, false, false, false, false, false, false, false, false, false, false, false, false, false, false, false, false, false, false] rfl rfl (by kernel_rfl) (fun _ _ _ h => h) (Or.inl ⟨by rfl, ?_⟩) ?_ ?_
          rotate_left
          · intro w'
            go_simp
            with_reducible rfl
          rotate_left
          · simp only [Act.put, List.setIfInBounds_toArray, List.set_cons_zero, List.set_cons_succ]
            rfl
          refine pure_ (i := 4) (N := some 25) (v := ?_) (a' := ?_) #[true, true, true, true, true, false, false, false, false, false, false, false, false, false, false, false, false, false, false, false, false, false, false] rfl rfl (by kernel_rfl) (fun _ _ _ h => h) (Or.inl ⟨by rfl, ?_⟩) ?_ ?_
          rotate_left
          · intro w'
            go_simp
            with_reducible rfl
          rotate_left
          · simp only [Act.put, List.setIfInBounds_toArray, List.set_cons_zero, List.set_cons_succ]
            rfl
          refine take_ (i := 5) (N := some 26) (v := ?_) (a' := ?_) #[true, true, true, true, true, true, false, false, false, false, false, false, false, false, false, false, false, false, false, false, false, false, false] rfl rfl (by kernel_rfl) (fun _ _ _ h => h) (Or.inl ⟨by rfl, ?_⟩) hHeld ?_ ?_
          rotate_left
          · rintro w' ⟨s0, s1⟩
            go_simp
            with_reducible rfl
          rotate_left
          · simp only [Act.put, List.setIfInBounds_toArray, List.set_cons_zero, List.set_cons_succ]
            rfl
          refine pure_ (i := 6) (N := some 27) (v := ?_) (a' := ?_) #[true, true, true, true, true, true, true, false, false, false, false, false, false, false, false, false, false, false, false, false, false, false, false] rfl rfl (by kernel_rfl) (fun _ _ _ h => h) (Or.inl ⟨by rfl, ?_⟩) ?_ ?_
          rotate_left
          · intro w'
            go_simp
            with_reducible rfl
          rotate_left
          · simp only [Act.put, List.setIfInBounds_toArray, List.set_cons_zero, List.set_cons_succ]
            rfl
          refine pure_ (i := 9) (N := some 30) (v := ?_) (a' := ?_) #[true, true, true, true, true, true, true, false, false, true, false, false, false, false, false, false, false, false, false, false, false, false, false] rfl rfl (by kernel_rfl) (fun _ _ _ h => h) (Or.inl ⟨by rfl, ?_⟩) ?_ ?_
          rotate_left
          · intro w'
            go_simp
            with_reducible rfl
          rotate_left
          · simp only [Act.put, List.setIfInBounds_toArray, List.set_cons_zero, List.set_cons_succ]
            rfl
          refine pure_ (i := 10) (N := some 31) (v := ?_) (a' := ?_) #[true, true, true, true, true, true, true, false, false, true, true, false, false, false, false, false, false, false, false, false, false, false, false] rfl rfl (by kernel_rfl) (fun _ _ _ h => h) (Or.inl ⟨by rfl, ?_⟩) ?_ ?_
          rotate_left
          · intro w'
            go_simp
            with_reducible rfl
          rotate_left
          · simp only [Act.put, List.setIfInBounds_toArray, List.set_cons_zero, List.set_cons_succ]
            rfl
          refine pure_ (i := 11) (N := some 32) (v := ?_) (a' := ?_) #[true, true, true, true, true, true, true, false, false, true, true, true, false, false, false, false, false, false, false, false, false, false, false] rfl rfl (by kernel_rfl) (fun _ _ _ h => h) (Or.inl ⟨by rfl, ?_⟩) ?_ ?_
          rotate_left
          · intro w'
            go_simp
            with_reducible rfl
          rotate_left
          · simp only [Act.put, List.setIfInBounds_toArray, List.set_cons_zero, List.set_cons_succ]
            rfl
          refine take_ (i := 12) (N := some 33) (v := ?_) (a' := ?_) #[true, true, true, true, true, true, true, false, false, true, true, true, true, false, false, false, false, false, false, false, false, false, false] rfl rfl (by kernel_rfl) (fun _ _ _ h => h) (Or.inl ⟨by rfl, ?_⟩) hHeld ?_ ?_
          rotate_left
          · rintro w' ⟨s0, s1⟩
            go_simp
            with_reducible rfl
          rotate_left
          · simp only [Act.put, List.setIfInBounds_toArray, List.set_cons_zero, List.set_cons_succ]
            rfl
          refine pure_ (i := 13) (N := some 34) (v := ?_) (a' := ?_) #[true, true, true, true, true, true, true, false, false, true, true, true, true, true, false, false, false, false, false, false, false, false, false] rfl rfl (by kernel_rfl) (fun _ _ _ h => h) (Or.inl ⟨by rfl, ?_⟩) ?_ ?_
          rotate_left
          · intro w'
            go_simp
            with_reducible rfl
          rotate_left
          · simp only [Act.put, List.setIfInBounds_toArray, List.set_cons_zero, List.set_cons_succ]
            rfl
          refine one_ (i := 7) (N := some 28) #[true, true, true, true, true, true, true, true, false, true, true, true, true, true, false, false, false, false, false, false, false, false, false] rfl rfl (by kernel_rfl) (by decide) (fun K hK => ?_)
          refine Kd.R_lit_step aKi (w0 := w) base 3 (by rfl) (N := 28) rfl (xs := [i]) (inner := [.int .i64 i]) (ok := tt) (okp := tt) ?hr12 ?hrep12 (fun _ h => h) trivial HB.out ?hS12 (by simp) ?_
          case hr12 => first | (go_simp; done) | (go_simp; rfl)
          case hrep12 => exact Kd.reps_scalar (enc := Value.int .i64) [i]
          case hS12 => exact sz_le HS.out
          intro vI w35_1 ho hb hg _
          have bl := grown_below hg
          obtain ⟨AI, cI, rfl⟩ := Kd.R_slice ho
          have HI := Aside0.mk ho
          have HS' := Aside0.mk (HS.out.below bl)
          have HB' := Aside0.mk hb
          have HK' := Aside0.mk (HK.out.trans (KeepR.of_below bl))
          clear HS HB HK  bl hb hg ho
          have HS := HS'
          have HB := HB'
          have HK := HK'
          clear HS' HB' HK' 
          show K (Act.put _ (some 28) _) _
          simp only [Act.put, List.setIfInBounds_toArray, List.set_cons_zero, List.set_cons_succ]
          refine hK.out _ _ ⟨(blk_cell HS.out.blk 3).trans rfl, (blk_cell HS.out.blk 4).trans rfl⟩ (fun hHeld => ?_)
          clear hK K
          refine one_ (i := 8) (N := some 29) #[true, true, true, true, true, true, true, true, true, true, true, true, true, true, false, false, false, false, false, false, false, false, false] rfl rfl (by kernel_rfl) (by decide) (fun K hK => ?_)
          refine Kd.R_append_rows_step aKi (w0 := w) base (by rfl) (.tmp 26) (.tmp 28) 48 3 (.int .i64 0) 8 rfl Try.underlying48 INF3.out rfl (by decide) (by decide) (.slice AT r1.to_.length cT) r1.to_ [i] _ _ _ tt (fun _ => False) rfl rfl HS.out.rT (C_ofR HI.out) (fun _ _ h => h) (fun _ h => h.elim) (fun _ _ => trivial) HB.out (sz_le HS.out) ?hl13 ?_
          case hl13 => have := HLN.out; simp; omega
          intro v29 w35_2 ho hb hg hat
          have HS' := Aside0.mk (HS.out.growT ho hg hat)
          have HB' := Aside0.mk hb
          have HK' := Aside0.mk (HK.out.trans (KeepR.row hg (fun q e => by obtain ⟨cs, hc⟩ := own_of HS.out.rT q e; exact ⟨cs, 3, hc, .inr (.inl rfl)⟩)))
          clear HS HB HK  hb hg ho hat
          have HS := HS'
          have HB := HB'
          have HK := HK'
          clear HS' HB' HK' 
          show K (Act.put _ (some 29) _) _
          simp only [Act.put, List.setIfInBounds_toArray, List.set_cons_zero, List.set_cons_succ]
          refine hK.out _ _ ⟨(blk_cell HS.out.blk 3).trans rfl, (blk_cell HS.out.blk 4).trans rfl⟩ (fun hHeld => ?_)
          clear hK K
          refine one_ (i := 14) (N := some 35) #[true, true, true, true, true, true, true, true, true, true, true, true, true, true, true, false, false, false, false, false, false, false, false] rfl rfl (by kernel_rfl) (by decide) (fun K hK => ?_)
          refine goes_ Try.func34 (by kernel_rfl) rfl #[.slice Ab b.length cb] (by rfl) rfl rfl (by (try simp only [List.map_toArray, List.map_cons, List.map_nil]); first | done | rfl) ?_
          refine (full_calls Ab cb b _ (HCB.out _ HB.out) HL5.out).mono ?_
          rintro e w35_3 ⟨v35, rfl, ho, bl⟩
          refine ⟨v35, rfl, ?_⟩
          obtain ⟨AV, cV, rfl⟩ := Kd.R_slice ho
          have HV := Aside0.mk (Kd.R_lower ho (sz_le HS.out))
          have hb := HB.out.trans (bl.mono (sz_le HS.out))
          have hg : True := trivial
          have HS' := Aside0.mk (HS.out.below bl)
          have HB' := Aside0.mk hb
          have HK' := Aside0.mk (HK.out.trans (KeepR.of_below bl))
          clear HS HB HK  bl hb hg ho
          have HS := HS'
          have HB := HB'
          have HK := HK'
          clear HS' HB' HK' 
          refine hK.out _ _ ⟨(blk_cell HS.out.blk 3).trans rfl, (blk_cell HS.out.blk 4).trans rfl⟩ (fun hHeld => ?_)
          clear hK K
          refine one_ (i := 15) (N := some 36) #[true, true, true, true, true, true, true, true, true, true, true, true, true, true, true, true, false, false, false, false, false, false, false] rfl rfl (by kernel_rfl) (by decide) (fun K hK => ?_)
          refine Kd.R_lit_step bsK (w0 := w) base 28 (by rfl) (N := 36) rfl (xs := [(pad b)]) (inner := [.slice AV (pad b).length cV]) (ok := tt) (okp := tt) ?hr14 ?hrep14 (fun _ h => h) trivial HB.out ?hS14 (by simp) ?_
          case hr14 => first | (go_simp; done) | (go_simp; rfl)
          case hrep14 => exact reps_bs HV.out
          case hS14 => exact sz_le HS.out
          intro vM w35_4 ho hb hg _
          have bl := grown_below hg
          obtain ⟨AM, cM, rfl⟩ := Kd.R_slice ho
          have HM := Aside0.mk ho
          have HS' := Aside0.mk (HS.out.below bl)
          have HB' := Aside0.mk hb
          have HK' := Aside0.mk (HK.out.trans (KeepR.of_below bl))
          clear HS HB HK  bl hb hg ho
          have HS := HS'
          have HB := HB'
          have HK := HK'
          clear HS' HB' HK' 
          show K (Act.put _ (some 36) _) _
          simp only [Act.put, List.setIfInBounds_toArray, List.set_cons_zero, List.set_cons_succ]
          refine hK.out _ _ ⟨(blk_cell HS.out.blk 3).trans rfl, (blk_cell HS.out.blk 4).trans rfl⟩ (fun hHeld => ?_)
          clear hK K
          refine one_ (i := 16) (N := some 37) #[true, true, true, true, true, true, true, true, true, true, true, true, true, true, true, true, true, false, false, false, false, false, false] rfl rfl (by kernel_rfl) (by decide) (fun K hK => ?_)
          refine Kd.R_append_rows_step bsK (w0 := w) base (by rfl) (.tmp 33) (.tmp 36) 49 28 (.slice none 0 0) 24 rfl Try.underlying49 INF28.out rfl (by decide) (by decide) (.slice AW r1.ws.length cW) r1.ws [(pad b)] _ _ _ tt (fun q => tt q ∧ some q ≠ (Value.slice AW r1.ws.length cW).ownBlock) rfl rfl HS.out.rW (bs_reads HM.out) (fun x c h => M_ne h HS.out.rW) (fun q h => ⟨trivial, h.2⟩) (fun _ _ => trivial) HB.out (sz_le HS.out) ?hl15 ?_
          case hl15 => have := HLN.out; simp; omega
          intro v37 w35_5 ho hb hg hat
          have HS' := Aside0.mk (HS.out.growW ho hg hat)
          have HB' := Aside0.mk hb
          have HK' := Aside0.mk (HK.out.trans (KeepR.row hg (fun q e => by obtain ⟨cs, hc⟩ := own_of HS.out.rW q e; exact ⟨cs, 28, hc, .inr (.inr rfl)⟩)))
          clear HS HB HK  hb hg ho hat
          have HS := HS'
          have HB := HB'
          have HK := HK'
          clear HS' HB' HK' 
          show K (Act.put _ (some 37) _) _
          simp only [Act.put, List.setIfInBounds_toArray, List.set_cons_zero, List.set_cons_succ]
          refine hK.out _ _ ⟨(blk_cell HS.out.blk 3).trans rfl, (blk_cell HS.out.blk 4).trans rfl⟩ (fun hHeld => ?_)
          clear hK K
          obtain ⟨A29, c29, rfl⟩ := Kd.R_slice HS.out.rT
          obtain ⟨A37, c37, rfl⟩ := Kd.R_slice HS.out.rW
          refine pure_ (i := 17) (N := some 38) (v := ?_) (a' := ?_) #[true, true, true, true, true, true, true, true, true, true, true, true, true, true, true, true, true, true, false, false, false, false, false] rfl rfl (by kernel_rfl) (fun _ _ _ h => h) (Or.inl ⟨by rfl, ?_⟩) ?_ ?_
          rotate_left
          · intro w'
            go_simp
            with_reducible rfl
          rotate_left
          · simp only [Act.put, List.setIfInBounds_toArray, List.set_cons_zero, List.set_cons_succ]
            rfl
          refine pure_ (i := 18) (N := some 39) (v := ?_) (a' := ?_) #[true, true, true, true, true, true, true, true, true, true, true, true, true, true, true, true, true, true, true, false, false, false, false] rfl rfl (by kernel_rfl) (fun _ _ _ h => h) (Or.inl ⟨by rfl, ?_⟩) ?_ ?_
          rotate_left
          · intro w'
            go_simp
            with_reducible rfl
          rotate_left
          · simp only [Act.put, List.setIfInBounds_toArray, List.set_cons_zero, List.set_cons_succ]
            rfl
          refine last_ (i := 19) (N := none) #[true, true, true, true, true, true, true, true, true, true, true, true, true, true, true, true, true, true, true, true, false, false, false] rfl rfl (by kernel_rfl) (by decide) (fun K hK => ?_)
          refine skip_ (by rfl) rfl (exec_stA (x := .tmp 39) (v := .tmp 29) rfl (by kernel_rfl) rfl rfl ((blk_cell HS.out.blk 3).trans rfl) (blk_frozen HS.out.blk 3)) ?_
          have HS' := Aside0.mk (HS.out.put 3 (.slice A29 (r1.to_ ++ [i]).length c29))
          have HB' := Aside0.mk (HB.out.setCell (p := ⟨g, 3, none⟩) HS.out.ge (.slice A29 (r1.to_ ++ [i]).length c29))
          have HK' := Aside0.mk (HK.out.set HS.out.blk (j := 3) (.slice A29 (r1.to_ ++ [i]).length c29))
          clear HS HB HK
          have HS := HS'
          have HB := HB'
          have HK := HK'
          clear HS' HB' HK'
          refine hK.out _ _ ?_
          clear hK K
          refine pure_ (i := 20) (N := some 40) (v := ?_) (a' := ?_) #[true, true, true, true, true, true, true, true, true, true, true, true, true, true, true, true, true, true, true, true, true, false, false] rfl rfl (by kernel_rfl) (fun _ _ _ h => h) (Or.inl ⟨by rfl, ?_⟩) ?_ ?_
          rotate_left
          · intro w'
            go_simp
            with_reducible rfl
          rotate_left
          · simp only [Act.put, List.setIfInBounds_toArray, List.set_cons_zero, List.set_cons_succ]
            rfl
          refine pure_ (i := 21) (N := some 41) (v := ?_) (a' := ?_) #[true, true, true, true, true, true, true, true, true, true, true, true, true, true, true, true, true, true, true, true, true, true, false] rfl rfl (by kernel_rfl) (fun _ _ _ h => h) (Or.inl ⟨by rfl, ?_⟩) ?_ ?_
          rotate_left
          · intro w'
            go_simp
            with_reducible rfl
          rotate_left
          · simp only [Act.put, List.setIfInBounds_toArray, List.set_cons_zero, List.set_cons_succ]
            rfl
          refine last_ (i := 22) (N := none) #[true, true, true, true, true, true, true, true, true, true, true, true, true, true, true, true, true, true, true, true, true, true, true] rfl rfl (by kernel_rfl) (by decide) (fun K hK => ?_)
          refine skip_ (by rfl) rfl (exec_stA (x := .tmp 41) (v := .tmp 37) rfl (by kernel_rfl) rfl rfl ((blk_cell HS.out.blk 4).trans rfl) (blk_frozen HS.out.blk 4)) ?_
          have HS' := Aside0.mk (HS.out.put 4 (.slice A37 (r1.ws ++ [pad b]).length c37))
          have HB' := Aside0.mk (HB.out.setCell (p := ⟨g, 4, none⟩) HS.out.ge (.slice A37 (r1.ws ++ [pad b]).length c37))
          have HK' := Aside0.mk (HK.out.set HS.out.blk (j := 4) (.slice A37 (r1.ws ++ [pad b]).length c37))
          clear HS HB HK
          have HS := HS'
          have HB := HB'
          have HK := HK'
          clear HS' HB' HK'
          refine hK.out _ _ ?_
          clear hK K
          refine done_ (by kernel_rfl) ?_
          go_wp2
          go_ret
          exact ⟨rfl, ⟨_, _, _, _, St.at_ (r := { r1 with to_ := r1.to_ ++ [i], ws := r1.ws ++ [pad b] }) HS.out⟩, HB.out, HK.out⟩
end Go.Proofs.Ytnaegemldpfllaa.Dis
