/- The answer's disk: Flush, Crash, Read, walked by hand (written by mkref.py). -/
import Derived.Test.YtnaegemldpfllaaRfF
namespace Go.Proofs.Ytnaegemldpfllaa.Dis
open Go.RowKit Go.Proofs.YtnaegemldpfllaaW.PrintWords Go.Proofs.YtnaegemldpfllaaW.PrintLast Go.Proofs.YtnaegemldpfllaaW.PrintMore Go.Maps
set_option linter.unusedVariables false
set_option linter.unusedSimpArgs false
theorem toCell {base g : Nat} {w : World} {r : Rf} (h : IsRf base w g r) : ∃ AT cT, w.cell? ⟨g, 3, none⟩ = some (.slice AT r.to_.length cT) := by
  obtain ⟨_, _, vT, _, h⟩ := h
  obtain ⟨AT, cT, rfl⟩ := Kd.R_slice h.rT
  exact ⟨AT, cT, (blk_cell h.blk 3).trans rfl⟩
theorem keptR_congr (F G : Nat → Bool) (r : Rf) : ∀ k, (∀ j, j < k → F j = G j) → keptR F r k = keptR G r k
  | 0, _ => rfl
  | k + 1, h => by
    unfold keptR
    rw [keptR_congr F G r k (fun j hj => h j (by omega)), h k (by omega)]
def flushR (r : Rf) : Rf × Int := if (callR r).2 = false then ((callR r).1, 190) else (keepsR (callR r).1 (fun _ => true), 0)
def crashR (r : Rf) (l : List Bool) : Rf := { keepsR r (kept l) with armed := false, dead := false }
theorem IsRf.setNew {base g g4 j : Nat} {w : World} {r : Rf} {u : Value} (h : IsRf base w g r) (hc : ∃ cs, w.heap[g4]? = some (.cells cs 4 (0, 0))) : IsRf base (w.setCell ⟨g4, j, none⟩ u) g r := by
  obtain ⟨vA, vB, vT, vW, h⟩ := h
  obtain ⟨cs4, h4⟩ := hc
  exact ⟨vA, vB, vT, vW, h.kept (fun k cs q hq hk => (Below.heap_setCell w ⟨g4, j, none⟩ u k (fun e => by
    have e' : k = g4 := e
    rw [e', h4] at hk
    injection hk with hk
    injection hk with _ ht
    have h5 : (4 : Nat) = q := ht
    omega)).trans hk)⟩
theorem KeepR.setNew {w w' : World} {g4 j : Nat} {u : Value} (h : KeepR w w') (hg : w.heap.size ≤ g4) : KeepR w (w'.setCell ⟨g4, j, none⟩ u) :=
  ⟨by simpa [World.setCell] using h.1, fun i o hi ho => (Below.heap_setCell w' ⟨g4, j, none⟩ u i (fun e => by
    have e' : i = g4 := e
    rcases Nat.lt_or_ge i w.heap.size with h' | h'
    · omega
    · rw [Array.getElem?_eq_none h'] at hi; cases hi)).trans (h.2 i o hi ho)⟩
theorem brow_put {W : World} {base g n c : Nat} {xs : List Bool} (h : Kd.bool.R 4 W base tt (.slice (some ⟨g, 0, none⟩) n c) xs) (hn : xs.length = n) (k : Nat) (x : Bool) : Kd.bool.R 4 (W.setCell ⟨g, k, none⟩ (.bool x)) base tt (.slice (some ⟨g, 0, none⟩) n c) (xs.set k x) := by
  subst hn
  exact (Kd.R_put h (k : Int) x).1
theorem brow_cell {W : World} {base g n c : Nat} {xs : List Bool} (h : Kd.bool.R 4 W base tt (.slice (some ⟨g, 0, none⟩) n c) xs) (hn : xs.length = n) (k : Nat) (hk : k < n) : (∃ x, W.cell? ⟨g, k, none⟩ = some (.bool x)) ∧ W.frozen? ⟨g, k, none⟩ = false := by
  subst hn
  have := Kd.R_cell false h (k : Int) (by omega) (by omega)
  exact ⟨⟨_, this.1⟩, this.2⟩
theorem brow_keep {W W' : World} {b0 : Nat} {A : Option Addr} {n c : Nat} {xs : List Bool} (h : Kd.bool.R 4 W b0 tt (.slice A n c) xs) (hk : KeepR W W') : Kd.C Kd.bool W' A n xs :=
  C_ofR (R_kept h (fun k cs q hq hc => by
    have hq' : q = 4 := by simpa [Kd.bool, Kd.scalar] using hq
    subst hq'
    exact hk.cells hc (by decide) (by decide) (by decide)))
set_option maxHeartbeats 4000000 in
set_option maxRecDepth 100000 in
theorem rflush_calls (base g : Nat) (r : Rf) (w W : World) (h : IsRf base W g r) (hB : Below base w W) (hl : -9223372036854775808 < r.left ∧ r.left ≤ 9223372036854775807) (hn : r.at_.length = r.b.length) (ht : r.to_.length = r.ws.length) (hlen : r.at_.length + r.to_.length ≤ 1000000) :
    Calls Try.prog 37 #[.pointer (some ⟨g, 0, none⟩)] W fun e w' => e = .returned (.int .i64 (flushR r).2) ∧ IsRf base w' g (flushR r).1 ∧ Below base w w' ∧ KeepR W w' := by
  have info4 : (Try.prog.info? 4).map (fun i => (i.zero, i.size, i.bytes)) = some (some (.bool false), 1, 1) := by kernel_rfl
  have INB := Aside0.mk info4
  clear info4
  have HCL := Aside0.mk (rcall_calls base g r w W h hB hl)
  obtain ⟨hn1, ha1, hb1, ht1, hw1, _, _⟩ := callR_same r
  have HN := Aside0.mk (show (callR r).1.at_.length = (callR r).1.b.length ∧ (callR r).1.to_.length = (callR r).1.ws.length ∧ (callR r).1.at_.length + (callR r).1.to_.length ≤ 1000000 by rw [ha1, hb1, ht1, hw1]; exact ⟨hn, ht, hlen⟩)
  clear h hB hl hn ht hlen hn1 ha1 hb1 ht1 hw1
  unfold flushR
  obtain ⟨ok, hok⟩ : ∃ ok, ok = (callR r).2 := ⟨_, rfl⟩
  obtain ⟨r1, hr1⟩ : ∃ r1, r1 = (callR r).1 := ⟨_, rfl⟩
  rw [← hok, ← hr1] at HCL ⊢
  rw [← hr1] at HN
  clear hok hr1
  cases ok with
  | false =>
    rw [if_pos rfl]
    go_enter Try.func37, Try.ntmps37
    go_wp2_with (first
      | (go_at_call 41; refine HCL.out.mono ?_; rintro e w2 ⟨rfl, h4, h5, h6⟩; have HD2 := Aside0.mk h4; have HB2 := Aside0.mk h5; have HK2 := Aside0.mk h6; have cn : w2.cell? ⟨g, 0, none⟩ = some (.int .i64 r1.n) := (by obtain ⟨_, _, _, _, h7⟩ := h4; exact (blk_cell h7.blk 0).trans rfl); clear h4 h5 h6))
    go_ret
    exact ⟨rfl, HD2.out, HB2.out, HK2.out⟩
  | true =>
    rw [if_neg (by simp)]
    obtain ⟨n, hnn⟩ : ∃ n, n = r1.to_.length := ⟨_, rfl⟩
    have hn6 : n ≤ 1000000 := by have := HN.out.2.2; omega
    have HNN := Aside0.mk hnn
    clear hnn
    go_enter Try.func37, Try.ntmps37
    go_upto_block 0 with (first
      | (go_at_call 41; refine HCL.out.mono ?_; rintro e w2 ⟨rfl, h4, h5, h6⟩; have HD2 := Aside0.mk h4; have HB2 := Aside0.mk h5; have HK2 := Aside0.mk h6; obtain ⟨AT, cT, cn⟩ := toCell h4; rw [← HNN.out] at cn; clear h4 h5 h6)
      | ((with_reducible refine gate_dst (N := 13) rfl ?_); refine Kd.R_make Kd.bool (w0 := w2) w2.heap.size 4 rfl (N := 13) rfl 23 _ _ rfl (n : Int) rfl rfl Try.underlying23 (.bool false) 1 INB.out rfl (by decide) (by decide) false (ok := tt) (okp := tt) ?hz (fun _ h => h) trivial (by omega) (by simp only [Int.toNat_natCast]; omega) (Below.refl _ _) (Nat.le_refl _) ?_; (case hz => rfl); intro v3 w3 ho hb _ _; rw [Int.toNat_natCast] at ho; obtain ⟨A3, c3', rfl⟩ := Kd.R_slice ho; rw [List.length_replicate] at ho ⊢; have HO := Aside0.mk ho; have HS3 := Aside0.mk hb; clear ho hb))
    have HD3 := Aside0.mk (HD2.out.below HS3.out)
    have HB3 := Aside0.mk (HB2.out.trans (HS3.out.mono (Nat.le_of_lt (Nat.lt_of_le_of_lt HD2.out.ge HD2.out.lt))))
    have HK3 := Aside0.mk (HK2.out.trans (KeepR.of_below HS3.out))
    go_wp2_with fail
    go_loopw [4] (fun x wr => ∃ (k : Nat) (xs : List Bool), k ≤ n ∧ x = .int .i64 k ∧ xs.length = n ∧ Aside0 (∀ j, j < k → xs[j]? = some true) ∧ Aside0 (Kd.bool.R 4 wr w2.heap.size tt (.slice A3 n c3') xs) ∧ Aside0 (IsRf base wr g r1) ∧ Aside0 (Below base w wr) ∧ Aside0 (KeepR W wr)) (fun x _ => n - (intOf x).toNat)
    case atStart => exact ⟨0, _, Nat.zero_le _, rfl, List.length_replicate, ⟨fun j hj => absurd hj (Nat.not_lt_zero _)⟩, HO, HD3, HB3, HK3⟩
    case round =>
      obtain ⟨k, xs, hk, rfl, hxs, HF, HOk, HDk, HBk, HKk⟩ := hrel
      by_cases hlt : k < n
      · have e1 : decide ((k : Int) < n) = true := decide_eq_true (by omega)
        have e2 : decide (k < n) = true := decide_eq_true hlt
        obtain ⟨g4, cap, he, hg4, _, hc4⟩ := Kd.R_form HOk.out (by omega)
        injection he with he1 he2 he3
        subst he1
        clear he2 he3
        obtain ⟨⟨x4, cx4⟩, fx4⟩ := brow_cell HOk.out hxs k hlt
        have HG4 := Aside0.mk (And.intro hg4 hc4)
        clear hg4 hc4
        go_wp2
        go_roundw
        case rel =>
          refine ⟨k + 1, xs.set k true, by omega, by go_num, by rw [List.length_set]; exact hxs, ⟨fun j hj => ?_⟩, ⟨brow_put HOk.out hxs k true⟩, ⟨HDk.out.setNew HG4.out.2⟩, ⟨HBk.out.setCell (p := ⟨g4, k, none⟩) (by have h1 := HG4.out.1; have h2 := Nat.lt_of_le_of_lt HD2.out.ge HD2.out.lt; show base ≤ g4; omega) _⟩, ⟨HKk.out.setNew (by have h1 := HG4.out.1; have h2 := HK2.out.1; omega)⟩⟩
          by_cases hjk : j = k
          · subst hjk; rw [List.getElem?_set_self (by omega)]
          · rw [List.getElem?_set_ne (fun e => hjk e.symm)]; exact HF.out j (by omega)
        case measure => simp [intOf]; omega
      · obtain rfl : k = n := by omega
        have e1 : decide ((k : Int) < k) = false := decide_eq_false (by omega)
        have hcg : keepsR r1 (kept xs) = keepsR r1 (fun _ => true) := by
          unfold keepsR
          rw [keptR_congr (kept xs) (fun _ => true) r1 _ (fun j hj => by
            unfold kept
            rw [List.getD_eq_getElem?_getD, HF.out j (by rw [HNN.out]; exact hj)]
            rfl)]
        have HCG := Aside0.mk hcg
        have hKE := rkeeps_calls base g r1 w wr HDk.out HBk.out HN.out.1 HN.out.2.1 HN.out.2.2 A3 c3' xs (fun W' h1 _ => by rw [hxs]; exact brow_keep HOk.out h1) (by omega)
        rw [hxs, hcg] at hKE
        have HKE := Aside0.mk hKE
        clear hKE hcg
        go_wp2_with (first
          | (go_at_call 42; refine HKE.out.mono ?_; rintro e w9 ⟨rfl, h4, h5, h6⟩; have HD9 := Aside0.mk h4; have HB9 := Aside0.mk h5; have HK9 := Aside0.mk (HKk.out.trans h6); clear h4 h5 h6))
        go_ret
        exact ⟨rfl, HD9.out, HB9.out, HK9.out⟩
set_option maxHeartbeats 4000000 in
theorem rcrash_calls (base g : Nat) (r : Rf) (w W : World) (h : IsRf base W g r) (hB : Below base w W) (hn : r.at_.length = r.b.length) (ht : r.to_.length = r.ws.length) (hlen : r.at_.length + r.to_.length ≤ 1000000)
    (Ak : Option Addr) (ck : Nat) (l : List Bool) (hl : ∀ W', KeepR W W' → Below base w W' → Kd.C Kd.bool W' Ak l.length l) (hll : l.length ≤ 9223372036854775807) :
    Calls Try.prog 39 #[.pointer (some ⟨g, 0, none⟩), .slice Ak l.length ck] W fun e w' => e = .returned (.tuple #[]) ∧ IsRf base w' g (crashR r l) ∧ Below base w w' ∧ KeepR W w' := by
  have HKE := Aside0.mk (rkeeps_calls base g r w W h hB hn ht hlen Ak ck l hl hll)
  clear h hB hn ht hlen hl hll
  unfold crashR
  obtain ⟨r1, hr1⟩ : ∃ r1, r1 = keepsR r (kept l) := ⟨_, rfl⟩
  rw [← hr1] at HKE ⊢
  clear hr1
  go_enter Try.func39, Try.ntmps39
  go_wp2_with (first
    | (go_at_call 42; refine HKE.out.mono ?_; rintro e w9 ⟨rfl, ⟨vA, vB, vT, vW, h4⟩, h5, h6⟩; have HD9 := Aside0.mk h4; have HB9 := Aside0.mk h5; have HK9 := Aside0.mk h6; have c6 : w9.cell? ⟨g, 6, none⟩ = some (.bool r1.armed) := (blk_cell h4.blk 6).trans rfl; have c7 : w9.cell? ⟨g, 7, none⟩ = some (.bool r1.dead) := (blk_cell h4.blk 7).trans rfl; have f6 := blk_frozen h4.blk 6; have f7 := blk_frozen h4.blk 7; clear h4 h5 h6))
  go_end0
  have h7 := HD9.out.set (j := 6) (u := .bool false) (r' := { r1 with armed := false }) rfl rfl rfl rfl rfl
  exact ⟨rfl, ⟨_, _, _, _, h7.set (r' := { r1 with armed := false, dead := false }) rfl rfl rfl rfl rfl⟩, (HB9.out.setCell HD9.out.ge _).setCell HD9.out.ge _, (HK9.out.set HD9.out.blk _).set h7.blk _⟩
/-- What is read of a sector: the last write of it among the first k, or what stands fast. -/
def lastTo (r : Rf) (i : Int) (s0 : List Int) : Nat → List Int
  | 0 => s0
  | k + 1 => if r.to_.getD k 0 = i then r.ws.getD k [] else lastTo r i s0 k
def readR (r : Rf) (i : Int) : Rf × List Int × Int :=
  if (callR r).2 = false then ((callR r).1, [], 190) else if i < 0 then ((callR r).1, [], 1) else if (callR r).1.n ≤ i then ((callR r).1, [], 8)
  else ((callR r).1, lastTo (callR r).1 i (bytesR (callR r).1 i) (callR r).1.to_.length, 0)
set_option maxHeartbeats 4000000 in
set_option maxRecDepth 100000 in
theorem rread_calls (base g : Nat) (r : Rf) (i : Int) (w W : World) (h : IsRf base W g r) (hB : Below base w W) (hl : -9223372036854775808 < r.left ∧ r.left ≤ 9223372036854775807) (hn : r.at_.length = r.b.length) (ht : r.to_.length = r.ws.length) (hlen : r.at_.length + r.to_.length ≤ 1000000) (hbl : ∀ k, (lastTo (callR r).1 i (bytesR (callR r).1 i) k).length ≤ 1000000) :
    Calls Try.prog 36 #[.pointer (some ⟨g, 0, none⟩), .int .i64 i] W fun e w' => ∃ v, e = .returned (.tuple #[v, .int .i64 (readR r i).2.2]) ∧ IsRf base w' g (readR r i).1 ∧ Below base w w' ∧ KeepR W w' ∧ Kd.R (Kd.int .u8) 5 w' base tt v (readR r i).2.1 := by
  have info5 : (Try.prog.info? 5).map (fun i => (i.zero, i.size, i.bytes)) = some (some (.int .u8 0), 1, 1) := by kernel_rfl
  have INF := Aside0.mk info5
  clear info5
  have HCL := Aside0.mk (rcall_calls base g r w W h hB hl)
  obtain ⟨hn1, ha1, hb1, ht1, hw1, _, _⟩ := callR_same r
  have HN := Aside0.mk (show (callR r).1.at_.length = (callR r).1.b.length ∧ (callR r).1.to_.length = (callR r).1.ws.length ∧ (callR r).1.at_.length + (callR r).1.to_.length ≤ 1000000 by rw [ha1, hb1, ht1, hw1]; exact ⟨hn, ht, hlen⟩)
  have HBL := Aside0.mk hbl
  clear h hB hl hn ht hlen hn1 ha1 hb1 ht1 hw1 hbl
  unfold readR
  obtain ⟨ok, hok⟩ : ∃ ok, ok = (callR r).2 := ⟨_, rfl⟩
  obtain ⟨r1, hr1⟩ : ∃ r1, r1 = (callR r).1 := ⟨_, rfl⟩
  rw [← hok, ← hr1] at HCL ⊢
  rw [← hr1] at HN HBL
  clear hok hr1
  cases ok with
  | false =>
    rw [if_pos rfl]
    go_enter Try.func36, Try.ntmps36
    go_wp2_with (first
      | (go_at_call 41; refine HCL.out.mono ?_; rintro e w2 ⟨rfl, h4, h5, h6⟩; have HD2 := Aside0.mk h4; have HB2 := Aside0.mk h5; have HK2 := Aside0.mk h6; have cn : w2.cell? ⟨g, 0, none⟩ = some (.int .i64 r1.n) := (by obtain ⟨_, _, _, _, h7⟩ := h4; exact (blk_cell h7.blk 0).trans rfl); clear h4 h5 h6))
    go_ret2
    exact ⟨_, rfl, HD2.out, HB2.out, HK2.out, Kd.R_nil _ _ _ _ _⟩
  | true =>
    rw [if_neg (by simp)]
    by_cases h1 : i < 0
    · rw [if_pos h1]
      have e1 : decide (i < 0) = true := decide_eq_true h1
      go_enter Try.func36, Try.ntmps36
      go_wp2_with (first
        | (go_at_call 41; refine HCL.out.mono ?_; rintro e w2 ⟨rfl, h4, h5, h6⟩; have HD2 := Aside0.mk h4; have HB2 := Aside0.mk h5; have HK2 := Aside0.mk h6; have cn : w2.cell? ⟨g, 0, none⟩ = some (.int .i64 r1.n) := (by obtain ⟨_, _, _, _, h7⟩ := h4; exact (blk_cell h7.blk 0).trans rfl); clear h4 h5 h6))
      go_ret2
      exact ⟨_, rfl, HD2.out, HB2.out, HK2.out, Kd.R_nil _ _ _ _ _⟩
    · rw [if_neg h1]
      have e1 : decide (i < 0) = false := decide_eq_false h1
      by_cases h2 : r1.n ≤ i
      · rw [if_pos h2]
        have e2 : decide (r1.n ≤ i) = true := decide_eq_true h2
        go_enter Try.func36, Try.ntmps36
        go_wp2_with (first
          | (go_at_call 41; refine HCL.out.mono ?_; rintro e w2 ⟨rfl, h4, h5, h6⟩; have HD2 := Aside0.mk h4; have HB2 := Aside0.mk h5; have HK2 := Aside0.mk h6; have cn : w2.cell? ⟨g, 0, none⟩ = some (.int .i64 r1.n) := (by obtain ⟨_, _, _, _, h7⟩ := h4; exact (blk_cell h7.blk 0).trans rfl); clear h4 h5 h6))
        go_ret2
        exact ⟨_, rfl, HD2.out, HB2.out, HK2.out, Kd.R_nil _ _ _ _ _⟩
      · rw [if_neg h2]
        have e2 : decide (r1.n ≤ i) = false := decide_eq_false h2
        obtain ⟨n, hnn⟩ : ∃ n, n = r1.to_.length := ⟨_, rfl⟩
        have hn6 : n ≤ 1000000 := by have := HN.out.2.2; omega
        have HNN := Aside0.mk hnn
        rw [← hnn]
        clear hnn
        go_enter Try.func36, Try.ntmps36
        go_upto_block 0 with (first
          | (go_at_call 41; refine HCL.out.mono ?_; rintro e w2 ⟨rfl, h4, h5, h6⟩; have HD2 := Aside0.mk h4; have HB2 := Aside0.mk h5; have HK2 := Aside0.mk h6; have cn : w2.cell? ⟨g, 0, none⟩ = some (.int .i64 r1.n) := (by obtain ⟨_, _, _, _, h7⟩ := h4; exact (blk_cell h7.blk 0).trans rfl); clear h4 h5 h6)
          | (go_at_call 23; refine (rbytes_calls base g r1 i _ HD2.out HN.out.1 (by have := HN.out.2.2; omega)).mono ?_; rintro e w3 ⟨v3, rfl, h4, h5⟩; obtain ⟨A3, c3, rfl⟩ := Kd.R_slice h4; have HO3 := Aside0.mk h4; have HD3 := Aside0.mk (HD2.out.below h5); have HB3 := Aside0.mk (HB2.out.trans (h5.mono (Nat.le_of_lt (Nat.lt_of_le_of_lt HD2.out.ge HD2.out.lt)))); have HK3 := Aside0.mk (HK2.out.trans (KeepR.of_below h5)); clear h4 h5 HCL))
        obtain ⟨s0, hs0⟩ : ∃ s0, s0 = bytesR r1 i := ⟨_, rfl⟩
        rw [← hs0] at HO3 HBL ⊢
        have HS0 := Aside0.mk hs0
        clear hs0
        obtain ⟨vA, vB, vT, vW, h⟩ := HD3.out
        obtain ⟨AT, cT, rfl⟩ := Kd.R_slice h.rT
        obtain ⟨AW, cW, rfl⟩ := Kd.R_slice h.rW
        have hTn : r1.to_.length = n := HNN.out.symm
        have hWn : r1.ws.length = n := by rw [← HN.out.2.1]; exact HNN.out.symm
        have k3 : w3.cell? ⟨g, 3, none⟩ = some (.slice AT n cT) := (blk_cell h.blk 3).trans (by rw [← hTn]; rfl)
        have k4 : w3.cell? ⟨g, 4, none⟩ = some (.slice AW n cW) := (blk_cell h.blk 4).trans (by rw [← hWn]; rfl)
        have HS := Aside0.mk h
        have HTW := Aside0.mk (And.intro hTn hWn)
        clear h hTn hWn cn
        go_wp2_with fail
        go_loopw [6, 7] (fun y x wr => ∃ (k : Nat) (A : Option Addr) (c : Nat), k ≤ n ∧ x = .int .i64 k ∧ y = .slice A (lastTo r1 i s0 k).length c ∧ wr = w3 ∧ Aside0 (Kd.R (Kd.int .u8) 5 w3 base tt (.slice A (lastTo r1 i s0 k).length c) (lastTo r1 i s0 k))) (fun _ x _ => n - (intOf x).toNat)
        case atStart => exact ⟨0, _, _, Nat.zero_le _, rfl, rfl, rfl, HO3⟩
        case round =>
          obtain ⟨k, A, c, hk, rfl, rfl, hwr, HRk⟩ := hrel
          subst hwr
          by_cases hlt : k < n
          · have e1 : decide ((k : Int) < n) = true := decide_eq_true (by omega)
            have e2 : decide (k < n) = true := decide_eq_true hlt
            obtain ⟨adT, hAT, celT⟩ := Kd.at_int (C_ofR HS.out.rT) (k : Int) (by omega) (by rw [HTW.out.1]; omega)
            subst hAT
            simp only [Int.toNat_natCast] at celT
            obtain ⟨gb, Aw, cw, hB2, hgb, hcs, cbk, hRw⟩ := bs_at HS.out.rW rfl k (by rw [HTW.out.2]; exact hlt)
            subst hB2
            have HRw := Aside0.mk hRw
            clear hcs hgb hRw
            obtain ⟨ti, hti⟩ : ∃ ti, ti = rd r1.to_ (k : Int) := ⟨_, rfl⟩
            rw [← hti] at celT
            have hti2 : r1.to_.getD k 0 = ti := by rw [hti]; rfl
            have HTI := Aside0.mk hti2
            clear hti hti2
            by_cases hi : ti = i
            · subst hi
              have e3 : (ti == ti) = true := by simp
              have hls : lastTo r1 ti s0 (k + 1) = r1.ws.getD k [] := by show (if _ then _ else _) = _; rw [if_pos HTI.out]
              have HLS := Aside0.mk hls
              clear hls
              go_wp2
              go_roundw
              case rel => exact ⟨k + 1, Aw, cw, by omega, by go_num, by simp [HLS.out], by trivial, ⟨by rw [HLS.out]; exact HRw.out⟩⟩
              case measure => simp [intOf]; omega
            · have e3 : (ti == i) = false := by simp [hi]
              have hls : lastTo r1 i s0 (k + 1) = lastTo r1 i s0 k := by show (if _ then _ else _) = _; rw [if_neg (by rw [HTI.out]; exact hi)]
              have HLS := Aside0.mk hls
              clear hls
              go_wp2
              go_roundw
              case rel => exact ⟨k + 1, A, c, by omega, by go_num, by rw [HLS.out], by trivial, ⟨by rw [HLS.out]; exact HRk.out⟩⟩
              case measure => simp [intOf]; omega
          · obtain rfl : k = n := by omega
            have e1 : decide ((k : Int) < k) = false := decide_eq_false (by omega)
            obtain ⟨xs, hxs⟩ : ∃ xs, xs = lastTo r1 i s0 k := ⟨_, rfl⟩
            have HXL := Aside0.mk (show xs.length ≤ 1000000 by rw [hxs]; exact HBL.out k)
            rw [← hxs] at HRk ⊢
            have HX := Aside0.mk hxs
            clear hxs
            go_wp2_with (first
              | ((with_reducible refine gate_dst (N := 47) rfl ?_); refine Kd.R_lit (Kd.int .u8) wr.heap.size 5 ?hg (N := 47) ?hd (xs := ([] : List Int)) (inner := []) (ok := fun _ => True) (okp := fun _ => True) ?hr ?hp (fun _ hk => hk) trivial (Below.refl _ _) (Nat.le_refl _) (by simp) ?_; (case hd => rfl); (case hg => rfl); (case hr => first | (go_simp; done) | (go_simp; rfl)); (case hp => exact (Reps.none _ _)); intro v8 w8 ho4 hb hg_ hnew_; clear hg_ hnew_; have HO8 := Aside0.mk ho4; have HB8 := Aside0.mk hb; clear hb ho4)
              | ((with_reducible refine gate_dst (N := 49) rfl ?_); at_builtin; refine Kd.R_append_rows (Kd.int .u8) (w0 := wr) wr.heap.size rfl (.tmp 47) (.tmp 48) 28 5 (.int .u8 0) 1 rfl Try.underlying28 INF.out rfl (by decide) (by omega) v8 [] xs _ _ _ (fun _ => True) (fun _ => False) rfl rfl ?aO ?aR (fun _ _ h => h) (fun _ h => h.elim) ?aF ?aB ?aS ?aL ?_; (case aR => exact Kd.C_below (C_ofR HRk.out) HB8.out); (case aB => exact HB8.out); (case aF => exact (fun _ _ => trivial)); (case aO => exact HO8.out); (case aS => exact HB8.out.size); (case aL => have := HXL.out; simp; omega); intro v9 w9 ho hb hg hat; rw [List.nil_append] at ho; have HO9 := Aside0.mk ho; have HB9 := Aside0.mk hb; clear ho hb hg hat))
            go_ret2
            have hsz : base ≤ wr.heap.size := sz_le HS.out.st
            exact ⟨v9, rfl, HD3.out.below HB9.out, HB3.out.trans (HB9.out.mono hsz), HK3.out.trans (KeepR.of_below HB9.out), Kd.R_lower (by have h9 := HO9.out; rw [HX.out, HS0.out] at h9; exact h9) hsz⟩
end Go.Proofs.Ytnaegemldpfllaa.Dis
