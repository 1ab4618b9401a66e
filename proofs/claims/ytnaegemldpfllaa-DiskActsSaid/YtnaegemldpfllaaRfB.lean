/- The answer's disk: New, call, Arm, full, walked by hand. -/
import Derived.Test.YtnaegemldpfllaaRfA
namespace Go.Proofs.Ytnaegemldpfllaa.Dis
open Go.RowKit Go.Proofs.YtnaegemldpfllaaW.PrintWords Go.Proofs.YtnaegemldpfllaaW.PrintLast Go.Proofs.YtnaegemldpfllaaW.PrintMore Go.Maps
set_option linter.unusedVariables false
set_option linter.unusedSimpArgs false
def newR (n : Int) : Rf := { n := clampN n, at_ := [], b := [], to_ := [], ws := [], left := 0, armed := false, dead := false }
def callR (r : Rf) : Rf × Bool := if r.armed = true ∧ r.left ≤ 0 then ({ r with dead := true, left := r.left - 1 }, false) else ({ r with left := r.left - 1 }, !r.dead)
def armR (r : Rf) (c : Int) : Rf := { r with armed := true, left := if c < 0 then 0 else c }
theorem rfat_new (base : Nat) (w : World) (n : Int) (hb : base ≤ w.heap.size) (m : Int) (hm : clampN n = m) : IsRf base (w.alloc (.cells #[.int .i64 m, .slice none 0 0, .slice none 0 0, .slice none 0 0, .slice none 0 0, .int .i64 0, .bool false, .bool false] 51)) w.heap.size (newR n) := by
  subst hm
  exact ⟨.slice none 0 0, .slice none 0 0, .slice none 0 0, .slice none 0 0, blk_new w _, hb, Kd.R_nil _ _ _ _ _, Kd.R_nil _ _ _ _ _, Kd.R_nil _ _ _ _ _, Kd.R_nil _ _ _ _ _, fun k hk => by simp [Value.ownBlock] at hk, fun k hk => by simp [Value.ownBlock] at hk⟩
set_option maxHeartbeats 1000000 in
theorem rnew_calls (n : Int) (w : World) : Calls Try.prog 32 #[.int .i64 n] w fun e w' => ∃ g, e = .returned (.pointer (some ⟨g, 0, none⟩)) ∧ IsRf w.heap.size w' g (newR n) ∧ w.heap.size ≤ g ∧ Below w.heap.size w w' := by
  by_cases h1 : n < 0
  · have e1 : decide (n < 0) = true := decide_eq_true h1
    go_enter Try.func32, Try.ntmps32
    go_wp2
    go_ret
    exact ⟨_, rfl, rfat_new _ w n (Nat.le_refl _) 0 (by unfold clampN; omega), Nat.le_refl _, below_alloc (Below.refl _ _) _⟩
  · have e1 : decide (n < 0) = false := decide_eq_false h1
    by_cases h2 : 4096 < n
    · have e2 : decide (4096 < n) = true := decide_eq_true h2
      go_enter Try.func32, Try.ntmps32
      go_wp2
      go_ret
      exact ⟨_, rfl, rfat_new _ w n (Nat.le_refl _) 4096 (by unfold clampN; omega), Nat.le_refl _, below_alloc (Below.refl _ _) _⟩
    · have e2 : decide (4096 < n) = false := decide_eq_false h2
      go_enter Try.func32, Try.ntmps32
      go_wp2
      go_ret
      exact ⟨_, rfl, rfat_new _ w n (Nat.le_refl _) n (by unfold clampN; omega), Nat.le_refl _, below_alloc (Below.refl _ _) _⟩
set_option maxHeartbeats 2000000 in
theorem rcall_calls (base g : Nat) (r : Rf) (w W : World) (h : IsRf base W g r) (hB : Below base w W) (hl : -9223372036854775808 < r.left ∧ r.left ≤ 9223372036854775807) : Calls Try.prog 41 #[.pointer (some ⟨g, 0, none⟩)] W fun e w' => e = .returned (.bool (callR r).2) ∧ IsRf base w' g (callR r).1 ∧ Below base w w' ∧ KeepR W w' := by
  obtain ⟨vA, vB, vT, vW, h⟩ := h
  have c5 : W.cell? ⟨g, 5, none⟩ = some (.int .i64 r.left) := (blk_cell h.blk 5).trans rfl
  have c6 : W.cell? ⟨g, 6, none⟩ = some (.bool r.armed) := (blk_cell h.blk 6).trans rfl
  have c7 : W.cell? ⟨g, 7, none⟩ = some (.bool r.dead) := (blk_cell h.blk 7).trans rfl
  have f5 := blk_frozen h.blk 5
  have f7 := blk_frozen h.blk 7
  have hw : IntKind.i64.wrap (r.left - 1) = r.left - 1 := by rw [IntKind.wrap_i64]; omega
  have HH := Aside0.mk h
  have HB := Aside0.mk hB
  have h7 := Aside0.mk (h.set (j := 7) (u := .bool true) (r' := { r with dead := true }) rfl rfl rfl rfl rfl)
  clear h hB
  unfold callR
  rcases Bool.eq_false_or_eq_true r.armed with ha | ha
  rotate_left
  · rw [ha] at c6
    rw [if_neg (by rw [ha]; simp)]
    clear ha
    go_enter Try.func41, Try.ntmps41
    go_wp2
    go_ret
    exact ⟨rfl, ⟨vA, vB, vT, vW, HH.out.set (r' := { r with left := r.left - 1 }) rfl rfl rfl rfl rfl⟩, HB.out.setCell HH.out.ge _, (KeepR.refl W).set HH.out.blk _⟩
  · rw [ha] at c6
    by_cases h0 : r.left ≤ 0
    · rw [if_pos ⟨ha, h0⟩]
      clear ha
      have e1 : decide (r.left ≤ 0) = true := decide_eq_true h0
      go_enter Try.func41, Try.ntmps41
      go_wp2
      go_ret
      exact ⟨rfl, ⟨vA, vB, vT, vW, h7.out.set (r' := { r with dead := true, left := r.left - 1 }) rfl rfl rfl rfl rfl⟩, (HB.out.setCell HH.out.ge _).setCell HH.out.ge _, ((KeepR.refl W).set HH.out.blk _).set h7.out.blk _⟩
    · rw [if_neg (by intro h; exact h0 h.2)]
      clear ha
      have e1 : decide (r.left ≤ 0) = false := decide_eq_false h0
      go_enter Try.func41, Try.ntmps41
      go_wp2
      go_ret
      exact ⟨rfl, ⟨vA, vB, vT, vW, HH.out.set (r' := { r with left := r.left - 1 }) rfl rfl rfl rfl rfl⟩, HB.out.setCell HH.out.ge _, (KeepR.refl W).set HH.out.blk _⟩
set_option maxHeartbeats 2000000 in
theorem rarm_calls (base g : Nat) (r : Rf) (c : Int) (w W : World) (h : IsRf base W g r) (hB : Below base w W) : Calls Try.prog 38 #[.pointer (some ⟨g, 0, none⟩), .int .i64 c] W fun e w' => e = .returned (.tuple #[]) ∧ IsRf base w' g (armR r c) ∧ Below base w w' ∧ KeepR W w' := by
  obtain ⟨vA, vB, vT, vW, h⟩ := h
  have c5 : W.cell? ⟨g, 5, none⟩ = some (.int .i64 r.left) := (blk_cell h.blk 5).trans rfl
  have c6 : W.cell? ⟨g, 6, none⟩ = some (.bool r.armed) := (blk_cell h.blk 6).trans rfl
  have f5 := blk_frozen h.blk 5
  have f6 := blk_frozen h.blk 6
  have HH := Aside0.mk h
  have HB := Aside0.mk hB
  have h7 := Aside0.mk (h.set (j := 6) (u := .bool true) (r' := { r with armed := true }) rfl rfl rfl rfl rfl)
  clear h hB
  unfold armR
  by_cases h1 : c < 0
  · rw [if_pos h1]
    have e1 : decide (c < 0) = true := decide_eq_true h1
    go_enter Try.func38, Try.ntmps38
    go_wp2
    go_end0
    exact ⟨rfl, ⟨vA, vB, vT, vW, h7.out.set (r' := { r with armed := true, left := 0 }) rfl rfl rfl rfl rfl⟩, (HB.out.setCell HH.out.ge _).setCell HH.out.ge _, ((KeepR.refl W).set HH.out.blk _).set h7.out.blk _⟩
  · rw [if_neg h1]
    have e1 : decide (c < 0) = false := decide_eq_false h1
    go_enter Try.func38, Try.ntmps38
    go_wp2
    go_end0
    exact ⟨rfl, ⟨vA, vB, vT, vW, h7.out.set (r' := { r with armed := true, left := c }) rfl rfl rfl rfl rfl⟩, (HB.out.setCell HH.out.ge _).setCell HH.out.ge _, ((KeepR.refl W).set HH.out.blk _).set h7.out.blk _⟩
set_option maxHeartbeats 2000000 in
theorem full_calls (A : Option Addr) (c : Nat) (b : List Int) (w : World) (hr : Kd.C (Kd.int .u8) w A b.length b) (hb : b.length ≤ 512) :
    Calls Try.prog 34 #[.slice A b.length c] w fun e w' => ∃ v, e = .returned v ∧ Kd.R (Kd.int .u8) 5 w' w.heap.size (fun _ => True) v (pad b) ∧ Below w.heap.size w w' := by
  have info5 : (Try.prog.info? 5).map (fun i => (i.zero, i.size, i.bytes)) = some (some (.int .u8 0), 1, 1) := by kernel_rfl
  have INF := Aside0.mk info5
  clear info5
  have HR := Aside0.mk hr
  have HL := Aside0.mk hb
  have I512 : IntKind.i64.wrap (512 - (b.length : Int)) = 512 - (b.length : Int) := by rw [IntKind.wrap_i64]; omega
  clear hr hb
  go_enter Try.func34, Try.ntmps34
  go_wp2_with (first
    | ((with_reducible refine gate_dst (N := 3) rfl ?_); refine Kd.R_lit (Kd.int .u8) w.heap.size 5 ?hg (N := 3) ?hd (xs := ([] : List Int)) (inner := []) (ok := fun _ => True) (okp := fun _ => True) ?hr ?hp (fun _ hk => hk) trivial (Below.refl _ _) (Nat.le_refl _) (by simp) ?_; (case hd => rfl); (case hg => rfl); (case hr => first | (go_simp; done) | (go_simp; rfl)); (case hp => exact (Reps.none _ _)); intro v3 w10 ho4 hb hg_ hnew_; clear hg_ hnew_; have HO := Aside0.mk ho4; have HB10 := Aside0.mk hb; clear hb ho4)
    | ((with_reducible refine gate_dst (N := 5) rfl ?_); at_builtin; refine Kd.R_append_rows (Kd.int .u8) (w0 := w) w.heap.size rfl (.tmp 3) (.tmp 4) 28 5 (.int .u8 0) 1 rfl Try.underlying28 INF.out rfl (by decide) (by omega) v3 [] b _ _ _ (fun _ => True) (fun _ => False) rfl rfl ?aO ?aR (fun _ _ h => h) (fun _ h => h.elim) ?aF ?aB ?aS ?aL ?_; (case aR => exact Kd.C_below HR.out HB10.out); (case aB => exact HB10.out); (case aF => exact (fun _ _ => trivial)); (case aO => exact HO.out); (case aS => exact HB10.out.size); (case aL => have := HL.out; simp; omega); intro v5 w11 ho hb hg hat; rw [List.nil_append] at ho; have HO11 := Aside0.mk ho; have HB11 := Aside0.mk hb; clear ho hb hg hat)
    | ((with_reducible refine gate_dst (N := 9) rfl ?_); at_builtin; refine Kd.R_append_zeros (Kd.int .u8) (w0 := w) w.heap.size rfl (.tmp 5) (.tmp 8) 28 3 5 (.int .u8 0) 1 rfl Try.underlying28 Try.underlying3 INF.out rfl (by decide) (by decide) v5 b 0 (kx := .i64) (512 - (b.length : Int)) (fun _ => True) rfl rfl ?aZ (fun _ _ => trivial) HO11.out (by have := HL.out; omega) HB11.out HB11.out.size ?aL ?_; (case aZ => rfl); (case aL => have := HL.out; omega); intro v6 w12 ho hb hg hat; have HO12 := Aside0.mk ho; have HB12 := Aside0.mk hb; clear ho hb hg hat))
  go_ret
  refine ⟨_, rfl, ?_, HB12.out⟩
  have e : b ++ List.replicate (512 - (b.length : Int)).toNat 0 = pad b := by
    unfold pad
    rw [show ((512 : Int) - (b.length : Int)).toNat = 512 - b.length by omega]
  rw [← e]
  exact HO12.out
end Go.Proofs.Ytnaegemldpfllaa.Dis
