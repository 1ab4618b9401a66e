/- The law's lives, walked by hand. -/
import Derived.Test.YtnaegemldpfllaaDisS
import Derived.Lib.SlBytesConst
namespace Go.Proofs.Ytnaegemldpfllaa.Dis
open Go.RowKit Go.Proofs.YtnaegemldpfllaaW.PrintWords Go.Proofs.YtnaegemldpfllaaW.PrintLast Go.Proofs.YtnaegemldpfllaaW.PrintMore Go.Maps
set_option linter.unusedVariables false
set_option linter.unusedSimpArgs false
/-- A row of the program's own is no block of a disk's. -/
theorem lies_of_R {W : World} {b0 base : Nat} {A : Option Addr} {c : Nat} {b : List Int} (h : Kd.R (Kd.int .u8) 5 W b0 (fun _ => True) (.slice A b.length c) b) : Lies base W A b := fun W' hk _ => by
  obtain ⟨h0, inner, ho, hr⟩ := h
  rcases ho.2 with ⟨hv, hn⟩ | ⟨g, cap, cur, hv, hg, hh, hnc, hcm, hcs, htake⟩
  · injection hv with hv
    subst hv
    have : b = [] := List.eq_nil_of_length_eq_zero hn
    subst this
    exact Kd.C_nil _ _
  · have h1 := hk.2 g _ _ _ hh (by decide) (by decide)
    exact Kd.R_reads' (xs := b) (e := 5) (base := b0) (ok := fun _ => True) ⟨h0, inner, ⟨ho.1, Or.inr ⟨g, cap, cur, hv, hg, h1, hnc, hcm, hcs, htake⟩⟩, hr⟩ |>.2.2
theorem lies_bool {W : World} {b0 : Nat} {A : Option Addr} {c : Nat} {b : List Bool} (h : Kd.R Kd.bool 4 W b0 (fun _ => True) (.slice A b.length c) b) : ∀ W', KeepD W W' → Kd.C Kd.bool W' A b.length b := fun W' hk => by
  obtain ⟨h0, inner, ho, hr⟩ := h
  rcases ho.2 with ⟨hv, hn⟩ | ⟨g, cap, cur, hv, hg, hh, hnc, hcm, hcs, htake⟩
  · injection hv with hv
    subst hv
    have : b = [] := List.eq_nil_of_length_eq_zero hn
    subst this
    exact Kd.C_nil _ _
  · have h1 := hk.2 g _ _ _ hh (by decide) (by decide)
    exact Kd.R_reads' (xs := b) (e := 4) (base := b0) (ok := fun _ => True) ⟨h0, inner, ⟨ho.1, Or.inr ⟨g, cap, cur, hv, hg, h1, hnc, hcm, hcs, htake⟩⟩, hr⟩ |>.2.2
def L0 : D := newD 4
def L1 : D := (writeD L0 0 [97]).1
def L2 : D := (flushD L1).1
def L3 : D := (writeD L2 0 [98]).1
def L4 : D := (writeD L3 1 [99]).1
def L5 : D := crashD L4 [false, true]
theorem L1e : (writeD L0 0 [97]).2 = 0 := by kernel_rfl
theorem L2e : (flushD L1).2 = 0 := by kernel_rfl
theorem L3e : (writeD L2 0 [98]).2 = 0 := by kernel_rfl
theorem L4e : (writeD L3 1 [99]).2 = 0 := by kernel_rfl
theorem L5a : bytesD L5 0 = pad [97] := by kernel_rfl
theorem L5b : bytesD L5 1 = pad [99] := by kernel_rfl
theorem L5s : L5.since = [] := by kernel_rfl
theorem L0c : L0.cnt = 0 := by kernel_rfl
theorem L1c : L1.cnt = 1 := by kernel_rfl
theorem L2c : L2.cnt = 1 := by kernel_rfl
theorem L3c : L3.cnt = 2 := by kernel_rfl
theorem L4c : L4.cnt = 3 := by kernel_rfl
theorem pad_head (x : Int) : pad [x] = x :: List.replicate 511 0 := by kernel_rfl
theorem pad_len (x : Int) : (pad [x]).length = 512 := by kernel_rfl
/-! ### the walk -/
theorem L0q : newD 4 = L0 := rfl
theorem L1q : (writeD L0 0 [97]).1 = L1 := rfl
theorem L2q : (flushD L1).1 = L2 := rfl
theorem L3q : (writeD L2 0 [98]).1 = L3 := rfl
theorem L4q : (writeD L3 1 [99]).1 = L4 := rfl
theorem L5q : crashD L4 [false, true] = L5 := rfl
attribute [irreducible] L0 L1 L2 L3 L4 L5
theorem gate_args {f : Nat} {x1 x2 x3 : Value} {W : World} {Q : Ending → World → Prop} (h : Calls Try.prog f #[x1, x2, x3] W Q) : Calls Try.prog f #[x1, x2, x3] W Q := h
theorem gate_two {f : Nat} {x1 x2 : Value} {W : World} {Q : Ending → World → Prop} (h : Calls Try.prog f #[x1, x2] W Q) : Calls Try.prog f #[x1, x2] W Q := h
theorem lies_two (W : World) (x y : Bool) : ∀ W', KeepD (W.alloc (.cells #[.bool x, .bool y] 4 (0, 0))) W' → Kd.C Kd.bool W' (some ⟨W.heap.size, 0, none⟩) [x, y].length [x, y] := fun W' hk => by
  have h1 := hk.2 W.heap.size _ _ _ (blk_new W _) (by decide) (by decide)
  refine Kd.C_of_reads (enc := Value.bool) (d := false) (h1 := fun _ => rfl) ⟨rfl, (by simp), fun _ => ⟨_, rfl, fun j hj => ?_⟩⟩
  have : j = 0 ∨ j = 1 := by simp at hj; omega
  rcases this with rfl | rfl <;> simp [World.cell?, Addr.add, h1]
theorem add0 (a : Addr) : a.add 0 = a := by simp [Addr.add]
theorem okB1 (x : Int) (h0 : 0 ≤ x) (h1 : x < 256) : OkB [x] := fun y hy => by rw [List.mem_singleton.1 hy]; exact ⟨h0, h1⟩
theorem lies_const (W : World) (x : Int) (base : Nat) : Lies base (W.alloc (.cells #[.int .u8 x] 5 (1, 2))) (some ⟨W.heap.size, 0, none⟩) [x] := fun W' hk _ => by
  have h1 := hk.2 W.heap.size _ _ _ (blk_new W _) (by decide) (by decide)
  refine Kd.C_of_reads (enc := Value.int .u8) (d := (0 : Int)) (h1 := fun _ => rfl) ⟨rfl, (by simp), fun _ => ⟨_, rfl, fun j hj => ?_⟩⟩
  have : j = 0 := by simp at hj; omega
  subst this
  simp [World.cell?, Addr.add, h1]
theorem IsD.grown {base g : Nat} {w w' : World} {d : D} (h : IsD base w g d) (hg : w.grownBy w' none) : IsD base w' g d := h.below ⟨hg.os, hg.tape, hg.output, hg.size, fun k hk => hg.block k hk (by simp)⟩
set_option maxHeartbeats 1000000 in
theorem lives_calls (w : World) : Calls Try.prog 14 #[] w fun e w' => e = .returned (.bool true) ∧ Below w.heap.size w w' := by
  have kc := fun (w : World) (C : Array Value) (n c : Nat) => Lib.run_convert_bytes_const (P := Try.prog) w 28 5 C n c Try.underlying28 Try.underlying5
  have HB := Aside0.mk (Below.refl w.heap.size w)
  obtain ⟨sA, hsA⟩ : ∃ s, s = pad [97] := ⟨_, rfl⟩
  obtain ⟨sB, hsB⟩ : ∃ s, s = pad [99] := ⟨_, rfl⟩
  have EA := Aside0.mk (L5a.trans hsA.symm)
  have EB := Aside0.mk (L5b.trans hsB.symm)
  have NA := Aside0.mk (show sA.length = 512 by rw [hsA]; exact pad_len _)
  have NB := Aside0.mk (show sB.length = 512 by rw [hsB]; exact pad_len _)
  have RA := Aside0.mk (show rd sA 0 = 97 by rw [hsA, pad_head]; rfl)
  have RB := Aside0.mk (show rd sB 0 = 99 by rw [hsB, pad_head]; rfl)
  clear hsA hsB
  have nA : ((sA.length : Nat) : Int) = 512 := by rw [NA.out]; rfl
  have nB : ((sB.length : Nat) : Int) = 512 := by rw [NB.out]; rfl
  go_enter Try.func14, Try.ntmps14
  go_wp2_with (first
      | (go_at_call 8; refine (new_calls 4 w).mono ?_; rintro e w1 ⟨g, rfl, h1, h2, h3⟩; rw [L0q] at h1; have HD := Aside0.mk h1; have HB := Aside0.mk h3; clear h1 h2 h3)
      | (go_at_call 9; (with_reducible refine gate_args (x1 := _) (x2 := .int .i64 0) (x3 := _) ?_); refine (write_yes w.heap.size g L0 0 _ _ [97] w _ (HD.out.below (below_alloc (Below.refl _ _) _)) (HB.out.alloc HB.out.size _) (lies_const _ _ _) (okB1 _ (by decide) (by decide)) L1e (by rw [L0c]; decide) (Nat.le_refl _)).mono ?_; rintro e w4 ⟨rfl, h1, h2, h3⟩; clear HB HD; have HB := Aside0.mk h2; rw [L1q] at h1; have HD := Aside0.mk h1; clear h1 h2 h3)
      | (go_at_call 9; (with_reducible refine gate_args (x1 := _) (x2 := .int .i64 0) (x3 := _) ?_); refine (write_yes w.heap.size g L2 0 _ _ [98] w _ (HD.out.below (below_alloc (Below.refl _ _) _)) (HB.out.alloc HB.out.size _) (lies_const _ _ _) (okB1 _ (by decide) (by decide)) L3e (by rw [L2c]; decide) (Nat.le_refl _)).mono ?_; rintro e w4 ⟨rfl, h1, h2, h3⟩; clear HB HD; have HB := Aside0.mk h2; rw [L3q] at h1; have HD := Aside0.mk h1; clear h1 h2 h3)
      | (go_at_call 9; (with_reducible refine gate_args (x1 := _) (x2 := .int .i64 1) (x3 := _) ?_); refine (write_yes w.heap.size g L3 1 _ _ [99] w _ (HD.out.below (below_alloc (Below.refl _ _) _)) (HB.out.alloc HB.out.size _) (lies_const _ _ _) (okB1 _ (by decide) (by decide)) L4e (by rw [L3c]; decide) (Nat.le_refl _)).mono ?_; rintro e w4 ⟨rfl, h1, h2, h3⟩; clear HB HD; have HB := Aside0.mk h2; rw [L4q] at h1; have HD := Aside0.mk h1; clear h1 h2 h3)
      | (go_at_call 11; refine (flush_calls w.heap.size g L1 w _ HD.out HB.out (Nat.le_refl _) (by rw [L1c]; decide)).mono ?_; rintro e w4 ⟨rfl, h1, h2, h3⟩; rw [L2e]; clear HB HD; have HB := Aside0.mk h2; rw [L2q] at h1; have HD := Aside0.mk h1; clear h1 h2 h3)
      | (go_at_call 13; refine (crash_calls w.heap.size g L4 w _ (HD.out.below (below_alloc (Below.refl _ _) _)) (HB.out.alloc HB.out.size _) (Nat.le_refl _) (by rw [L4c]; decide) _ _ [false, true] (fun W' h1 _ => lies_two _ false true W' h1)).mono ?_; rintro e w4 ⟨rfl, h1, h2, h3⟩; clear HB HD; have HB := Aside0.mk h2; rw [L5q] at h1; have HD := Aside0.mk h1; clear h1 h2 h3)
      | (go_at_call 12; (with_reducible refine gate_two (x1 := _) (x2 := .int .i64 0) ?_); refine (bytes_calls w.heap.size g L5 0 ⟨by decide, by decide⟩ _ HD.out).mono ?_; rintro e w4 ⟨v, rfl, h1, h2⟩; rw [EA.out] at h1; have HD' := Aside0.mk (HD.out.below h2); have HB' := Aside0.mk (HB.out.trans (h2.mono HB.out.size)); obtain ⟨AA, cA, rfl, hcA, hCA⟩ := Kd.R_reads h1; have HCA := Aside0.mk hCA; clear h1 h2 hCA hcA HB HD; have HB := HB'; have HD := HD'; clear HB' HD')
      | (go_at_call 12; (with_reducible refine gate_two (x1 := _) (x2 := .int .i64 1) ?_); refine (bytes_calls w.heap.size g L5 1 ⟨by decide, by decide⟩ _ HD.out).mono ?_; rintro e w4 ⟨v, rfl, h1, h2⟩; rw [EB.out] at h1; have HD' := Aside0.mk (HD.out.below h2); have HB' := Aside0.mk (HB.out.trans (h2.mono HB.out.size)); have HCA' := Aside0.mk (Kd.C_below HCA.out h2); clear HCA; have HCA := HCA'; clear HCA'; obtain ⟨AB, cB, rfl, hcB, hCB⟩ := Kd.R_reads h1; have HCB := Aside0.mk hCB; clear h1 h2 hCB hcB HB HD; have HB := HB'; have HD := HD'; clear HB' HD'; obtain ⟨adA, rfl, hcA⟩ := Kd.at_int HCA.out 0 (by decide) (by have := NA.out; omega); rw [RA.out, show (0 : Int).toNat = 0 from rfl, add0] at hcA; obtain ⟨adB, rfl, hcB⟩ := Kd.at_int HCB.out 0 (by decide) (by have := NB.out; omega); rw [RB.out, show (0 : Int).toNat = 0 from rfl, add0] at hcB)
      | (go_at_call 17; refine (pending_calls w.heap.size g L5 _ HD.out).mono ?_; rintro e w4 ⟨rfl, rfl⟩; rw [L5s]))
  go_ret
  exact ⟨rfl, HB.out⟩
end Go.Proofs.Ytnaegemldpfllaa.Dis
