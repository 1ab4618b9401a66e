/- Disk.Flush and Disk.Crash, walked by hand. -/
import Derived.Test.YtmghgghheebnjaaDisK
namespace Go.Proofs.Ytmghgghheebnjaa.Dis
open Go.RowKit Go.Proofs.YtmghgghheebnjaaW.PrintWords Go.Proofs.YtmghgghheebnjaaW.PrintLast Go.Proofs.YtmghgghheebnjaaW.PrintMore Go.Maps
set_option linter.unusedVariables false
set_option linter.unusedSimpArgs false
def flushD (d : D) : D × Int := if (callD d).2 = 0 then (keepsD (callD d).1 (fun _ => true), 0) else callD d
theorem callD_cnt (d : D) : (callD d).1.cnt = d.cnt := by unfold callD; split <;> rfl
theorem callD_e (d : D) : (callD d).2 = 0 ∨ (callD d).2 = 190 := by unfold callD; split <;> simp
theorem flush_calls (base g : Nat) (d : D) (w W : World) (h : IsD base W g d) (hB : Below base w W) (hbw : base ≤ w.heap.size) (hcnt : d.cnt < 1000000) :
    Calls Try.prog 53 #[.pointer (some ⟨g, 0, none⟩)] W fun e w' => e = .returned (.int .i64 (flushD d).2) ∧ IsD base w' g (flushD d).1 ∧ Below base w w' ∧ KeepD W w' := by
  have HH := Aside0.mk h
  have HBB := Aside0.mk hB
  have HBW := Aside0.mk hbw
  have HCN := Aside0.mk hcnt
  clear h hB hbw hcnt
  rcases callD_e d with he | he
  · have e1 : flushD d = (keepsD (callD d).1 (fun _ => true), 0) := if_pos he
    rw [e1]
    have HE := Aside0.mk he
    clear he e1
    go_enter Try.func53, Try.ntmps53
    go_wp2_with (first
      | (go_at_call 67; refine (call_calls base g d w _ HH.out HBB.out).mono ?_; rintro e w1 ⟨rfl, h1, h2, h3⟩; rw [HE.out]; have H1 := Aside0.mk h1; have H2 := Aside0.mk h2; have H3 := Aside0.mk h3; clear h1 h2 h3)
      | (go_at_call 54; refine (keeps_all base g (callD d).1 w _ H1.out H2.out (Nat.le_trans HBW.out H2.out.size) (by rw [callD_cnt]; exact HCN.out)).mono ?_; rintro e w2 ⟨rfl, h4, h5, h6⟩; have H4 := Aside0.mk h4; have H5 := Aside0.mk h5; have H6 := Aside0.mk h6; clear h4 h5 h6))
    go_ret
    exact ⟨rfl, H4.out, H5.out, H3.out.trans H6.out⟩
  · have e1 : flushD d = callD d := if_neg (by rw [he]; decide)
    rw [e1]
    have HE := Aside0.mk he
    clear he e1
    go_enter Try.func53, Try.ntmps53
    go_wp2_with (first
      | (go_at_call 67; refine (call_calls base g d w _ HH.out HBB.out).mono ?_; rintro e w1 ⟨rfl, h1, h2, h3⟩; rw [HE.out]; have H1 := Aside0.mk h1; have H2 := Aside0.mk h2; have H3 := Aside0.mk h3; clear h1 h2 h3))
    go_ret
    exact ⟨by rw [HE.out]; rfl, H1.out, H2.out, H3.out⟩
def crashD (d : D) (l : List Bool) : D := { keepsD d (kept l) with dead := false, left := -1 }
theorem crash_calls (base g : Nat) (d : D) (w W : World) (h : IsD base W g d) (hB : Below base w W) (hbw : base ≤ w.heap.size) (hcnt : d.cnt < 1000000)
    (Ak : Option Addr) (ck : Nat) (l : List Bool) (hl : ∀ W', KeepD W W' → Below base w W' → Kd.C Kd.bool W' Ak l.length l) :
    Calls Try.prog 23 #[.pointer (some ⟨g, 0, none⟩), .slice Ak l.length ck] W fun e w' => e = .returned (.tuple #[]) ∧ IsD base w' g (crashD d l) ∧ Below base w w' ∧ KeepD W w' := by
  have HH := Aside0.mk h
  have HBB := Aside0.mk hB
  have HBW := Aside0.mk hbw
  have HCN := Aside0.mk hcnt
  have HL := Aside0.mk hl
  clear h hB hbw hcnt hl
  go_enter Try.func23, Try.ntmps23
  go_wp2_with (first
    | (go_at_call 54; refine (keeps_some base g d w _ ?hI ?hB2 ?hbw HCN.out W.heap.size Ak ck l ?hgk ?hgb ?hl).mono ?_; (case hI => exact HH.out.below (below_alloc (Below.refl _ _) _)); (case hB2 => exact HBB.out.alloc (Nat.le_trans HBW.out HBB.out.size) _); (case hbw => exact Nat.le_trans HBW.out (HBB.out.alloc (Nat.le_trans HBW.out HBB.out.size) _).size); (case hgk => exact blk_new W _); (case hgb => exact Nat.le_trans HBW.out HBB.out.size); (case hl => exact fun W' h1 h2 => HL.out W' ((KeepD.of_below (below_alloc (Below.refl _ _) _)).trans h1) h2); rintro e w2 ⟨rfl, h4, h5, h6⟩; have H4 := Aside0.mk h4; have H5 := Aside0.mk h5; have H6 := Aside0.mk ((KeepD.of_below (below_alloc (Below.refl _ _) _)).trans h6); obtain ⟨_, b7, v7, m7, hb7, _⟩ := h4; have c4 := (blk_cell hb7 4).trans rfl; have f4 := blk_frozen hb7 4; have c3 := (blk_cell hb7 3).trans rfl; have f3 := blk_frozen hb7 3; have HB7 := Aside0.mk hb7; clear h5 h6 hb7))
  go_end0
  have hge := H4.out.ge
  have hb8 := blk_put HB7.out 4 (.bool false) rfl
  exact ⟨rfl, (H4.out.set_dead false).set_left (-1) (by omega) (by omega), (H5.out.setCell hge _).setCell hge _, (H6.out.set HB7.out _).set hb8 _⟩
end Go.Proofs.Ytmghgghheebnjaa.Dis
