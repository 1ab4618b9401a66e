/- disk.New and Disk.Bytes, walked by hand. -/
import Derived.Test.YtmghgghheebnjaaDisX
import Derived.WalkSpells
namespace Go.Proofs.Ytmghgghheebnjaa.Dis
open Go.RowKit Go.Proofs.YtmghgghheebnjaaW.PrintWords Go.Proofs.YtmghgghheebnjaaW.PrintLast Go.Proofs.YtmghgghheebnjaaW.PrintMore Go.Maps
set_option linter.unusedVariables false
set_option linter.unusedSimpArgs false
theorem MapIs.new (w : World) : MapIs (w.alloc (.map #[] 0)) w.heap.size 0 (fun _ => zeros) :=
  ⟨fun _ => sec_zeros, .map [], ⟨[], rfl⟩, World.ownsMap_made w Try.prog 3 secR, fun i _ => rfl⟩
def clampN (n : Int) : Int := if n < 0 then 0 else if 4096 < n then 4096 else n
def newD (n : Int) : D := { n := clampN n, fast := fun _ => zeros, since := [], left := -1, dead := false, cnt := 0 }
set_option maxHeartbeats 1000000 in
theorem made_calls (n : Int) (w : World) : Calls Try.prog 42 #[.int .i64 n] w fun e w' => ∃ g, e = .returned (.pointer (some ⟨g, 0, none⟩)) ∧ IsD w.heap.size w' g (newD n) ∧ w.heap.size ≤ g ∧ Below w.heap.size w w' := by
  have hok : DOk (newD n) := by
    refine ⟨?_, ?_, by show (-1 : Int) ≤ -1; omega, by show (-1 : Int) ≤ _; omega, fun x hx => by cases hx⟩
    · show 0 ≤ clampN n; unfold clampN; split <;> (try split) <;> omega
    · show clampN n ≤ 4096; unfold clampN; split <;> (try split) <;> omega
  have hmk := @run_makeMap Try.prog
  have HOK := Aside0.mk hok
  clear hok
  have fin : ∀ (x : Int), x = clampN n → (∃ g, Ending.returned (.pointer (some ⟨w.heap.size + 1, 0, none⟩)) = .returned (.pointer (some ⟨g, 0, none⟩)) ∧ IsD w.heap.size ((w.alloc (.map #[] 0)).alloc (.cells #[.int .i64 x, .map (some w.heap.size), .slice none 0 0, .int .i64 (-1), .bool false] 88)) g (newD n) ∧ w.heap.size ≤ g ∧ Below w.heap.size w ((w.alloc (.map #[] 0)).alloc (.cells #[.int .i64 x, .map (some w.heap.size), .slice none 0 0, .int .i64 (-1), .bool false] 88))) := fun x hx => by
    subst hx
    refine ⟨_, rfl, ⟨HOK.out, w.heap.size, .slice none 0 0, 0, (by have := blk_new (w.alloc (.map #[] 0)) (.cells #[.int .i64 (clampN n), .map (some w.heap.size), .slice none 0 0, .int .i64 (-1), .bool false] 88); rw [show (w.alloc (.map #[] 0)).heap.size = w.heap.size + 1 by simp] at this; exact this), by omega, Nat.le_refl _, Nat.le_refl _, (MapIs.new w).kept (row := none) (World.grownBy_alloc _ _ none) (by simp), Kd.R_nil _ _ _ _ _⟩, by simp, below_alloc (below_alloc (Below.refl _ _) _) _⟩
  have FIN := Aside0.mk fin
  clear fin
  by_cases h1 : n < 0
  · have e : (0 : Int) = clampN n := by unfold clampN; rw [if_pos h1]
    have E := Aside0.mk e
    clear e
    go_enter Try.func42, Try.ntmps42
    go_wp2
    go_ret
    exact FIN.out 0 E.out
  · by_cases h2 : 4096 < n
    · have e : (4096 : Int) = clampN n := by unfold clampN; rw [if_neg h1, if_pos h2]
      have E := Aside0.mk e
      clear e
      go_enter Try.func42, Try.ntmps42
      go_wp2
      go_ret
      exact FIN.out 4096 E.out
    · have e : n = clampN n := by unfold clampN; rw [if_neg h1, if_neg h2]
      have E := Aside0.mk e
      clear e
      go_enter Try.func42, Try.ntmps42
      go_wp2
      go_ret
      exact FIN.out n E.out
theorem new_calls (n : Int) (w : World) : Calls Try.prog 16 #[.int .i64 n] w fun e w' => ∃ g, e = .returned (.pointer (some ⟨g, 0, none⟩)) ∧ IsD w.heap.size w' g (newD n) ∧ w.heap.size ≤ g ∧ Below w.heap.size w w' := by
  go_enter Try.func16, Try.ntmps16
  go_wp2_with (go_at_call 42; refine (made_calls n w).mono ?_; rintro e w1 ⟨g, rfl, h1, h2, h3⟩)
  go_ret
  exact ⟨g, rfl, h1, h2, h3⟩
/-! ### Bytes -/
theorem clone_calls (A : Option Addr) (c : Nat) (b : List Int) (w : World) (hr : Kd.C (Kd.int .u8) w A b.length b) (hc : b.length ≤ c) (hp : 0 < b.length) (hs : b.length ≤ 1000000) :
    Calls Try.prog 56 #[.slice A b.length c] w fun e w' => ∃ v, e = .returned v ∧ Kd.R (Kd.int .u8) 5 w' w.heap.size (fun _ => True) v b ∧ Below w.heap.size w w' := by
  obtain ⟨ad, rfl, _⟩ := hr.2.2 hp
  have hnil := fun (w : World) => Go.Lib.run_eql_slice_nil (P := Try.prog) w 56 5 (some ad) b.length c 0 0 Try.underlying56
  have HR := Aside0.mk hr
  have HB := Aside0.mk (Below.refl w.heap.size w)
  have info5 : (Try.prog.info? 5).map (fun i => (i.zero, i.size, i.bytes)) = some (some (.int .u8 0), 1, 1) := by kernel_rfl
  have INF := Aside0.mk info5
  have HS := Aside0.mk hs
  clear hr info5
  go_enter Try.func56, Try.ntmps56
  go_wp2_with (first
    | ((with_reducible refine gate_dst (N := 5) rfl ?_); refine Kd.R_lit (Kd.int .u8) _ 5 ?hg (N := 5) ?hd (xs := ([] : List Int)) (inner := []) (ok := fun _ => True) (okp := fun _ => True) ?hr ?hp (fun _ hk => hk) trivial (Below.refl _ _) (Nat.le_refl _) (by simp) ?_; (case hd => rfl); (case hg => rfl); (case hr => first | (go_simp; done) | (go_simp; rfl)); (case hp => exact (Reps.none _ _)); intro v3 w3 ho4 hb hg_ hnew_; clear hg_ hnew_; have HO := Aside0.mk ho4; have HB3 := Aside0.mk hb; clear hb ho4 HB)
    | ((with_reducible refine gate_dst (N := 7) rfl ?_); at_builtin; refine Kd.R_append_rows (Kd.int .u8) (w0 := w) w.heap.size rfl (.tmp 5) (.tmp 6) 56 5 (.int .u8 0) 1 rfl Try.underlying56 INF.out rfl (by decide) (by omega) v3 [] b _ _ _ (fun _ => True) (fun _ => False) rfl rfl ?aO ?aR (fun _ _ h => h) (fun _ h => h.elim) ?aF ?aB ?aS ?aL ?_; (case aR => exact Kd.C_below HR.out HB3.out); (case aB => exact HB3.out); (case aF => exact (fun _ _ => trivial)); (case aO => exact HO.out); (case aS => exact HB3.out.size); (case aL => have := HS.out; simp; omega); intro v5 w5 ho hb hg hat; have HO5 := Aside0.mk ho; have HB5 := Aside0.mk hb; clear ho hb hg hat))
  go_ret
  exact ⟨_, rfl, by simpa using HO5.out, HB5.out⟩
end Go.Proofs.Ytmghgghheebnjaa.Dis
