/- The answer's Read leaves the blocks of all its rows (written by mkstill.py). -/
import Derived.Test.YtnaegemldpfllaaRfI
namespace Go.Proofs.Ytnaegemldpfllaa.Dis
open Go.RowKit Go.Proofs.YtnaegemldpfllaaW.PrintWords Go.Proofs.YtnaegemldpfllaaW.PrintLast Go.Proofs.YtnaegemldpfllaaW.PrintMore Go.Maps
set_option linter.unusedVariables false
set_option linter.unusedSimpArgs false
def StillR (W w' : World) (g : Nat) (r r' : Rf) : Prop := (∀ k, k < W.heap.size → k ≠ g → w'.heap[k]? = W.heap[k]?) ∧
  (r'.at_ = r.at_ ∧ r'.b = r.b ∧ r'.to_ = r.to_ ∧ r'.ws = r.ws) ∧ ∀ vA vB vT vW, W.heap[g]? = some (.cells (rcells r vA vB vT vW) 51 (0, 0)) → w'.heap[g]? = some (.cells (rcells r' vA vB vT vW) 51 (0, 0))
def KeepS (W w' : World) (g : Nat) (r r' : Rf) : Prop := KeepR W w' ∧ StillR W w' g r r'
theorem StillR.refl (W : World) (g : Nat) (r : Rf) : StillR W W g r r := ⟨fun _ _ _ => rfl, ⟨rfl, rfl, rfl, rfl⟩, fun _ _ _ _ h => h⟩
theorem StillR.set {W w' : World} {g j : Nat} {r r' r2 : Rf} {u : Value} (h : StillR W w' g r r') (e : ∀ vA vB vT vW, (rcells r' vA vB vT vW).setIfInBounds j u = rcells r2 vA vB vT vW) (e2 : r2.at_ = r'.at_ ∧ r2.b = r'.b ∧ r2.to_ = r'.to_ ∧ r2.ws = r'.ws) : StillR W (w'.setCell ⟨g, j, none⟩ u) g r r2 :=
  ⟨fun k hk hg => (Below.heap_setCell _ _ _ _ (fun e => hg e)).trans (h.1 k hk hg), ⟨e2.1.trans h.2.1.1, e2.2.1.trans h.2.1.2.1, e2.2.2.1.trans h.2.1.2.2.1, e2.2.2.2.trans h.2.1.2.2.2⟩, fun vA vB vT vW hb => blk_put (h.2.2 _ _ _ _ hb) j u (e _ _ _ _)⟩
theorem KeepS.below {W w w' : World} {g : Nat} {r r' : Rf} (h : KeepS W w g r r') (hb : Below w.heap.size w w') : KeepS W w' g r r' :=
  ⟨h.1.trans (KeepR.of_below hb), fun k hk hg => (hb.block k (Nat.lt_of_lt_of_le hk h.1.1)).trans (h.2.1 k hk hg), h.2.2.1, fun vA vB vT vW e => blk_below (h.2.2.2 _ _ _ _ e) hb⟩
/-- The answer's disk stands, also when a block is set that was not there before. -/
theorem IsRf.still {base g q j : Nat} {W0 W w' : World} {r r' : Rf} {u : Value} (h : IsRf base W0 g r) (hk : KeepD W0 W) (hs : StillR W w' g r r') (hq : W0.heap.size ≤ q) : IsRf base (w'.setCell ⟨q, j, none⟩ u) g r' := by
  obtain ⟨vA, vB, vT, vW, h⟩ := h
  have hg : g < W0.heap.size := blk_lt h.blk
  have hkeep : ∀ (k : Nat) (cs : Array Value) (t : Nat), (t = 3 ∨ t = 28 ∨ t = 5) → W0.heap[k]? = some (Obj.cells cs t (0, 0)) → (w'.setCell ⟨q, j, none⟩ u).heap[k]? = some (Obj.cells cs t (0, 0)) := fun k cs t ht hc => by
    have hlt : k < W0.heap.size := blk_lt hc
    have t1 : t ≠ 58 := by omega
    have t2 : t ≠ 62 := by omega
    have h1 := hk.2 k _ _ _ hc t1 t2
    have hne : k ≠ g := fun e => by
      subst e
      rw [h.blk] at hc
      injection hc with hc
      injection hc with _ ht2
      subst ht2
      omega
    rw [Below.heap_setCell _ _ _ _ (fun e => by have : q = k := e.symm; omega), hs.1 k (Nat.lt_of_lt_of_le hlt hk.1) hne]
    exact h1
  refine ⟨vA, vB, vT, vW, ⟨?_, h.ge, ?_, ?_, ?_, ?_, h.sA, h.sB⟩⟩
  · rw [Below.heap_setCell _ _ _ _ (fun e => by have : q = g := e.symm; omega)]
    exact hs.2.2 _ _ _ _ (hk.2 _ _ _ _ h.blk (by decide) (by decide))
  · rw [hs.2.1.1]
    exact R_kept h.rA (fun k cs q hq hc => hkeep k cs q (by have : q = 3 := by simpa [Kd.int, Kd.scalar] using hq
                                                            omega) hc)
  · rw [hs.2.1.2.1]
    exact R_kept h.rB (fun k cs q hq hc => hkeep k cs q (by have : q = 28 ∨ q = 5 := by simpa [bsK, Kd.slice, Kd.int, Kd.scalar] using hq
                                                            omega) hc)
  · rw [hs.2.1.2.2.1]
    exact R_kept h.rT (fun k cs q hq hc => hkeep k cs q (by have : q = 3 := by simpa [Kd.int, Kd.scalar] using hq
                                                            omega) hc)
  · rw [hs.2.1.2.2.2]
    exact R_kept h.rW (fun k cs q hq hc => hkeep k cs q (by have : q = 28 ∨ q = 5 := by simpa [bsK, Kd.slice, Kd.int, Kd.scalar] using hq
                                                            omega) hc)
set_option maxHeartbeats 4000000 in
theorem rcall2_calls (base g : Nat) (r : Rf) (w W : World) (h : IsRf base W g r) (hB : Below base w W) (hl : -9223372036854775808 < r.left ∧ r.left ≤ 9223372036854775807) : Calls Try.prog 41 #[.pointer (some ⟨g, 0, none⟩)] W fun e w' => e = .returned (.bool (callR r).2) ∧ IsRf base w' g (callR r).1 ∧ Below base w w' ∧ KeepS W w' g r (callR r).1 := by
  obtain ⟨vA, vB, vT, vW, h⟩ := h
  have c5 : W.cell? ⟨g, 5, none⟩ = some (.int .i64 r.left) := (blk_cell h.blk 5).trans rfl
  have c6 : W.cell? ⟨g, 6, none⟩ = some (.bool r.armed) := (blk_cell h.blk 6).trans rfl
  have c7 : W.cell? ⟨g, 7, none⟩ = some (.bool r.dead) := (blk_cell h.blk 7).trans rfl
  have f5 := blk_frozen h.blk 5
  have f7 := blk_frozen h.blk 7
  have hw : IntKind.i64.wrap (r.left - 1) = r.left - 1 := by rw [IntKind.wrap_i64]; omega
  have HH := Aside0.mk h
  have HB := Aside0.mk hB
  have h7 := Aside0.mk (h.set (j := 7) (u := .bool true) (r' := { r with dead := true }) rfl rfl rfl rfl rfl)
  clear h hB
  unfold callR
  rcases Bool.eq_false_or_eq_true r.armed with ha | ha
  rotate_left
  · rw [ha] at c6
    rw [if_neg (by rw [ha]; simp)]
    clear ha
    go_enter Try.func41, Try.ntmps41
    go_wp2
    go_ret
    exact ⟨rfl, ⟨vA, vB, vT, vW, HH.out.set (r' := { r with left := r.left - 1 }) rfl rfl rfl rfl rfl⟩, HB.out.setCell HH.out.ge _, ⟨(KeepR.refl W).set HH.out.blk _, (StillR.refl W g r).set (fun _ _ _ _ => rfl) ⟨rfl, rfl, rfl, rfl⟩⟩⟩
  · rw [ha] at c6
    by_cases h0 : r.left ≤ 0
    · rw [if_pos ⟨ha, h0⟩]
      clear ha
      have e1 : decide (r.left ≤ 0) = true := decide_eq_true h0
      go_enter Try.func41, Try.ntmps41
      go_wp2
      go_ret
      exact ⟨rfl, ⟨vA, vB, vT, vW, h7.out.set (r' := { r with dead := true, left := r.left - 1 }) rfl rfl rfl rfl rfl⟩, (HB.out.setCell HH.out.ge _).setCell HH.out.ge _, ⟨((KeepR.refl W).set HH.out.blk _).set h7.out.blk _, ((StillR.refl W g r).set (r2 := { r with dead := true }) (fun _ _ _ _ => rfl) ⟨rfl, rfl, rfl, rfl⟩).set (fun _ _ _ _ => rfl) ⟨rfl, rfl, rfl, rfl⟩⟩⟩
    · rw [if_neg (by intro h; exact h0 h.2)]
      clear ha
      have e1 : decide (r.left ≤ 0) = false := decide_eq_false h0
      go_enter Try.func41, Try.ntmps41
      go_wp2
      go_ret
      exact ⟨rfl, ⟨vA, vB, vT, vW, HH.out.set (r' := { r with left := r.left - 1 }) rfl rfl rfl rfl rfl⟩, HB.out.setCell HH.out.ge _, ⟨(KeepR.refl W).set HH.out.blk _, (StillR.refl W g r).set (fun _ _ _ _ => rfl) ⟨rfl, rfl, rfl, rfl⟩⟩⟩
set_option maxHeartbeats 4000000 in
set_option maxRecDepth 100000 in
theorem rread2_calls (base g : Nat) (r : Rf) (i : Int) (w W : World) (h : IsRf base W g r) (hB : Below base w W) (hl : -9223372036854775808 < r.left ∧ r.left ≤ 9223372036854775807) (hn : r.at_.length = r.b.length) (ht : r.to_.length = r.ws.length) (hlen : r.at_.length + r.to_.length ≤ 1000000) (hbl : ∀ k, (lastTo (callR r).1 i (bytesR (callR r).1 i) k).length ≤ 1000000) :
    Calls Try.prog 36 #[.pointer (some ⟨g, 0, none⟩), .int .i64 i] W fun e w' => ∃ v, e = .returned (.tuple #[v, .int .i64 (readR r i).2.2]) ∧ IsRf base w' g (readR r i).1 ∧ Below base w w' ∧ KeepS W w' g r (readR r i).1 ∧ Kd.R (Kd.int .u8) 5 w' base tt v (readR r i).2.1 := by
  have info5 : (Try.prog.info? 5).map (fun i => (i.zero, i.size, i.bytes)) = some (some (.int .u8 0), 1, 1) := by kernel_rfl
  have INF := Aside0.mk info5
  clear info5
  have HCL := Aside0.mk (rcall2_calls base g r w W h hB hl)
  obtain ⟨hn1, ha1, hb1, ht1, hw1, _, _⟩ := callR_same r
  have HN := Aside0.mk (show (callR r).1.at_.length = (callR r).1.b.length ∧ (callR r).1.to_.length = (callR r).1.ws.length ∧ (callR r).1.at_.length + (callR r).1.to_.length ≤ 1000000 by rw [ha1, hb1, ht1, hw1]; exact ⟨hn, ht, hlen⟩)
  have HBL := Aside0.mk hbl
  clear h hB hl hn ht hlen hn1 ha1 hb1 ht1 hw1 hbl
  unfold readR
  obtain ⟨ok, hok⟩ : ∃ ok, ok = (callR r).2 := ⟨_, rfl⟩
  obtain ⟨r1, hr1⟩ : ∃ r1, r1 = (callR r).1 := ⟨_, rfl⟩
  rw [← hok, ← hr1] at HCL ⊢
  rw [← hr1] at HN HBL
  clear hok hr1
  cases ok with
  | false =>
    rw [if_pos rfl]
    go_enter Try.func36, Try.ntmps36
    go_wp2_with (first
      | (go_at_call 41; refine HCL.out.mono ?_; rintro e w2 ⟨rfl, h4, h5, h6⟩; have HD2 := Aside0.mk h4; have HB2 := Aside0.mk h5; have HK2 := Aside0.mk h6; have cn : w2.cell? ⟨g, 0, none⟩ = some (.int .i64 r1.n) := (by obtain ⟨_, _, _, _, h7⟩ := h4; exact (blk_cell h7.blk 0).trans rfl); clear h4 h5 h6))
    go_ret2
    exact ⟨_, rfl, HD2.out, HB2.out, HK2.out, Kd.R_nil _ _ _ _ _⟩
  | true =>
    rw [if_neg (by simp)]
    by_cases h1 : i < 0
    · rw [if_pos h1]
      have e1 : decide (i < 0) = true := decide_eq_true h1
      go_enter Try.func36, Try.ntmps36
      go_wp2_with (first
        | (go_at_call 41; refine HCL.out.mono ?_; rintro e w2 ⟨rfl, h4, h5, h6⟩; have HD2 := Aside0.mk h4; have HB2 := Aside0.mk h5; have HK2 := Aside0.mk h6; have cn : w2.cell? ⟨g, 0, none⟩ = some (.int .i64 r1.n) := (by obtain ⟨_, _, _, _, h7⟩ := h4; exact (blk_cell h7.blk 0).trans rfl); clear h4 h5 h6))
      go_ret2
      exact ⟨_, rfl, HD2.out, HB2.out, HK2.out, Kd.R_nil _ _ _ _ _⟩
    · rw [if_neg h1]
      have e1 : decide (i < 0) = false := decide_eq_false h1
      by_cases h2 : r1.n ≤ i
      · rw [if_pos h2]
        have e2 : decide (r1.n ≤ i) = true := decide_eq_true h2
        go_enter Try.func36, Try.ntmps36
        go_wp2_with (first
          | (go_at_call 41; refine HCL.out.mono ?_; rintro e w2 ⟨rfl, h4, h5, h6⟩; have HD2 := Aside0.mk h4; have HB2 := Aside0.mk h5; have HK2 := Aside0.mk h6; have cn : w2.cell? ⟨g, 0, none⟩ = some (.int .i64 r1.n) := (by obtain ⟨_, _, _, _, h7⟩ := h4; exact (blk_cell h7.blk 0).trans rfl); clear h4 h5 h6))
        go_ret2
        exact ⟨_, rfl, HD2.out, HB2.out, HK2.out, Kd.R_nil _ _ _ _ _⟩
      · rw [if_neg h2]
        have e2 : decide (r1.n ≤ i) = false := decide_eq_false h2
        obtain ⟨n, hnn⟩ : ∃ n, n = r1.to_.length := ⟨_, rfl⟩
        have hn6 : n ≤ 1000000 := by have := HN.out.2.2; omega
        have HNN := Aside0.mk hnn
        rw [← hnn]
        clear hnn
        go_enter Try.func36, Try.ntmps36
        go_upto_block 0 with (first
          | (go_at_call 41; refine HCL.out.mono ?_; rintro e w2 ⟨rfl, h4, h5, h6⟩; have HD2 := Aside0.mk h4; have HB2 := Aside0.mk h5; have HK2 := Aside0.mk h6; have cn : w2.cell? ⟨g, 0, none⟩ = some (.int .i64 r1.n) := (by obtain ⟨_, _, _, _, h7⟩ := h4; exact (blk_cell h7.blk 0).trans rfl); clear h4 h5 h6)
          | (go_at_call 23; refine (rbytes_calls base g r1 i _ HD2.out HN.out.1 (by have := HN.out.2.2; omega)).mono ?_; rintro e w3 ⟨v3, rfl, h4, h5⟩; obtain ⟨A3, c3, rfl⟩ := Kd.R_slice h4; have HO3 := Aside0.mk h4; have HD3 := Aside0.mk (HD2.out.below h5); have HB3 := Aside0.mk (HB2.out.trans (h5.mono (Nat.le_of_lt (Nat.lt_of_le_of_lt HD2.out.ge HD2.out.lt)))); have HK3 := Aside0.mk (HK2.out.below h5); clear h4 h5 HCL))
        obtain ⟨s0, hs0⟩ : ∃ s0, s0 = bytesR r1 i := ⟨_, rfl⟩
        rw [← hs0] at HO3 HBL ⊢
        have HS0 := Aside0.mk hs0
        clear hs0
        obtain ⟨vA, vB, vT, vW, h⟩ := HD3.out
        obtain ⟨AT, cT, rfl⟩ := Kd.R_slice h.rT
        obtain ⟨AW, cW, rfl⟩ := Kd.R_slice h.rW
        have hTn : r1.to_.length = n := HNN.out.symm
        have hWn : r1.ws.length = n := by rw [← HN.out.2.1]; exact HNN.out.symm
        have k3 : w3.cell? ⟨g, 3, none⟩ = some (.slice AT n cT) := (blk_cell h.blk 3).trans (by rw [← hTn]; rfl)
        have k4 : w3.cell? ⟨g, 4, none⟩ = some (.slice AW n cW) := (blk_cell h.blk 4).trans (by rw [← hWn]; rfl)
        have HS := Aside0.mk h
        have HTW := Aside0.mk (And.intro hTn hWn)
        clear h hTn hWn cn
        go_wp2_with fail
        go_loopw [6, 7] (fun y x wr => ∃ (k : Nat) (A : Option Addr) (c : Nat), k ≤ n ∧ x = .int .i64 k ∧ y = .slice A (lastTo r1 i s0 k).length c ∧ wr = w3 ∧ Aside0 (Kd.R (Kd.int .u8) 5 w3 base tt (.slice A (lastTo r1 i s0 k).length c) (lastTo r1 i s0 k))) (fun _ x _ => n - (intOf x).toNat)
        case atStart => exact ⟨0, _, _, Nat.zero_le _, rfl, rfl, rfl, HO3⟩
        case round =>
          obtain ⟨k, A, c, hk, rfl, rfl, hwr, HRk⟩ := hrel
          subst hwr
          by_cases hlt : k < n
          · have e1 : decide ((k : Int) < n) = true := decide_eq_true (by omega)
            have e2 : decide (k < n) = true := decide_eq_true hlt
            obtain ⟨adT, hAT, celT⟩ := Kd.at_int (C_ofR HS.out.rT) (k : Int) (by omega) (by rw [HTW.out.1]; omega)
            subst hAT
            simp only [Int.toNat_natCast] at celT
            obtain ⟨gb, Aw, cw, hB2, hgb, hcs, cbk, hRw⟩ := bs_at HS.out.rW rfl k (by rw [HTW.out.2]; exact hlt)
            subst hB2
            have HRw := Aside0.mk hRw
            clear hcs hgb hRw
            obtain ⟨ti, hti⟩ : ∃ ti, ti = rd r1.to_ (k : Int) := ⟨_, rfl⟩
            rw [← hti] at celT
            have hti2 : r1.to_.getD k 0 = ti := by rw [hti]; rfl
            have HTI := Aside0.mk hti2
            clear hti hti2
            by_cases hi : ti = i
            · subst hi
              have e3 : (ti == ti) = true := by simp
              have hls : lastTo r1 ti s0 (k + 1) = r1.ws.getD k [] := by show (if _ then _ else _) = _; rw [if_pos HTI.out]
              have HLS := Aside0.mk hls
              clear hls
              go_wp2
              go_roundw
              case rel => exact ⟨k + 1, Aw, cw, by omega, by go_num, by simp [HLS.out], by trivial, ⟨by rw [HLS.out]; exact HRw.out⟩⟩
              case measure => simp [intOf]; omega
            · have e3 : (ti == i) = false := by simp [hi]
              have hls : lastTo r1 i s0 (k + 1) = lastTo r1 i s0 k := by show (if _ then _ else _) = _; rw [if_neg (by rw [HTI.out]; exact hi)]
              have HLS := Aside0.mk hls
              clear hls
              go_wp2
              go_roundw
              case rel => exact ⟨k + 1, A, c, by omega, by go_num, by rw [HLS.out], by trivial, ⟨by rw [HLS.out]; exact HRk.out⟩⟩
              case measure => simp [intOf]; omega
          · obtain rfl : k = n := by omega
            have e1 : decide ((k : Int) < k) = false := decide_eq_false (by omega)
            obtain ⟨xs, hxs⟩ : ∃ xs, xs = lastTo r1 i s0 k := ⟨_, rfl⟩
            have HXL := Aside0.mk (show xs.length ≤ 1000000 by rw [hxs]; exact HBL.out k)
            rw [← hxs] at HRk ⊢
            have HX := Aside0.mk hxs
            clear hxs
            go_wp2_with (first
              | ((with_reducible refine gate_dst (N := 47) rfl ?_); refine Kd.R_lit (Kd.int .u8) wr.heap.size 5 ?hg (N := 47) ?hd (xs := ([] : List Int)) (inner := []) (ok := fun _ => True) (okp := fun _ => True) ?hr ?hp (fun _ hk => hk) trivial (Below.refl _ _) (Nat.le_refl _) (by simp) ?_; (case hd => rfl); (case hg => rfl); (case hr => first | (go_simp; done) | (go_simp; rfl)); (case hp => exact (Reps.none _ _)); intro v8 w8 ho4 hb hg_ hnew_; clear hg_ hnew_; have HO8 := Aside0.mk ho4; have HB8 := Aside0.mk hb; clear hb ho4)
              | ((with_reducible refine gate_dst (N := 49) rfl ?_); at_builtin; refine Kd.R_append_rows (Kd.int .u8) (w0 := wr) wr.heap.size rfl (.tmp 47) (.tmp 48) 28 5 (.int .u8 0) 1 rfl Try.underlying28 INF.out rfl (by decide) (by omega) v8 [] xs _ _ _ (fun _ => True) (fun _ => False) rfl rfl ?aO ?aR (fun _ _ h => h) (fun _ h => h.elim) ?aF ?aB ?aS ?aL ?_; (case aR => exact Kd.C_below (C_ofR HRk.out) HB8.out); (case aB => exact HB8.out); (case aF => exact (fun _ _ => trivial)); (case aO => exact HO8.out); (case aS => exact HB8.out.size); (case aL => have := HXL.out; simp; omega); intro v9 w9 ho hb hg hat; rw [List.nil_append] at ho; have HO9 := Aside0.mk ho; have HB9 := Aside0.mk hb; clear ho hb hg hat))
            go_ret2
            have hsz : base ≤ wr.heap.size := sz_le HS.out.st
            exact ⟨v9, rfl, HD3.out.below HB9.out, HB3.out.trans (HB9.out.mono hsz), HK3.out.below HB9.out, Kd.R_lower (by have h9 := HO9.out; rw [HX.out, HS0.out] at h9; exact h9) hsz⟩
end Go.Proofs.Ytnaegemldpfllaa.Dis
