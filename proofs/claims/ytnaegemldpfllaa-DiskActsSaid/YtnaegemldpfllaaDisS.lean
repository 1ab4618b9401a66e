/- The law's short and lives, walked by hand. -/
import Derived.Test.YtnaegemldpfllaaDisF
namespace Go.Proofs.Ytnaegemldpfllaa.Dis
open Go.RowKit Go.Proofs.YtnaegemldpfllaaW.PrintWords Go.Proofs.YtnaegemldpfllaaW.PrintLast Go.Proofs.YtnaegemldpfllaaW.PrintMore Go.Maps
set_option linter.unusedVariables false
set_option linter.unusedSimpArgs false
theorem map_add0 (A : Option Addr) : A.map (fun a => a.add 0) = A := by
  cases A with
  | none => rfl
  | some a => simp [Addr.add]
theorem slice_hi (A : Option Addr) (n c m : Nat) (hm : m ≤ c) (w : World) : (Instr.slice 28 (.slice A n c) none (some (.int .i64 (m : Int))) none).run Try.prog w = .ok (.slice A m c) w := by
  have hc : (0 ≤ (m : Int) ∧ (m : Int) ≤ (c : Int)) := by omega
  have hu : (underlying 28).run Try.prog w = .ok (.slice 5) w := by kernel_rfl
  have hs : (sizeOf 5).run Try.prog w = .ok 1 w := by kernel_rfl
  simp [Instr.slice, Instr.sliceBounds, Instr.sliceBound, asIntOf, hu, hs, hc, hm, map_add0]
theorem exec_hi {o : Oper} {a : Act} {W : World} {x : Operand} {A : Option Addr} {n c m : Nat} (hm : m = 512) (ho : o.op = .slice 28 x none (some (.const (.int .i64 512))) none) (hx : a.eval x = .slice A n c) (h : m ≤ c) : (execOp a.eval o).run Try.prog W = .ok (.value (.slice A m c)) W := by
  have e : (Instr.sliceAt 28 (Value.slice A n c) none (some (Value.int IntKind.i64 ((m : Nat) : Int))) none).run Try.prog W = .ok (.slice A m c) W := by
    have := slice_hi A n c m h W
    simp [Instr.sliceAt, this]
  have h5 : a.eval (.const (.int .i64 512)) = .int .i64 ((m : Nat) : Int) := by rw [hm]; rfl
  simp [execOp, ho, hx, h5, e]
set_option maxRecDepth 100000 in
theorem short_calls (A : Option Addr) (c : Nat) (b : List Int) (w : World) (hr : Kd.C (Kd.int .u8) w A b.length b) (hc : b.length ≤ c) :
    Calls Try.prog 10 #[.slice A b.length c] w fun e w' => ∃ v, e = .returned v ∧ Kd.R (Kd.int .u8) 5 w' w.heap.size (fun _ => True) v (b.take 512) ∧ Below w.heap.size w w' := by
  have HB := Aside0.mk (Below.refl w.heap.size w)
  have info5 : (Try.prog.info? 5).map (fun i => (i.zero, i.size, i.bytes)) = some (some (.int .u8 0), 1, 1) := by kernel_rfl
  have INF := Aside0.mk info5
  clear info5
  by_cases h : 512 < b.length
  · have HR := Aside0.mk (Kd.C_take (m := 512) hr (by omega))
    have hl : (b.take 512).length = 512 := by rw [List.length_take]; omega
    obtain ⟨b', hb'⟩ : ∃ b', b' = b.take 512 := ⟨_, rfl⟩
    rw [← hb'] at HR hl ⊢
    have HL := Aside0.mk hl
    obtain ⟨n, hn⟩ : ∃ n, n = b.length := ⟨_, rfl⟩
    rw [← hn] at h hc ⊢
    have h1 : (decide ((n : Int) > 512)) = true := decide_eq_true (by omega)
    have HC := Aside0.mk (show b'.length ≤ c by omega)
    clear hb' hr hn hl
    go_enter Try.func10, Try.ntmps10
    go_wp2_with (first
      | ((with_reducible refine gate_dst (N := 7) rfl ?_); refine wl_value rfl (exec_hi (x := .tmp 6) HL.out rfl rfl HC.out) ?_)
      | ((with_reducible refine gate_dst (N := 8) rfl ?_); refine Kd.R_lit (Kd.int .u8) _ 5 ?hg (N := 8) ?hd (xs := ([] : List Int)) (inner := []) (ok := fun _ => True) (okp := fun _ => True) ?hr ?hp (fun _ hk => hk) trivial (Below.refl _ _) (Nat.le_refl _) (by simp) ?_; (case hd => rfl); (case hg => rfl); (case hr => first | (go_simp; done) | (go_simp; rfl)); (case hp => exact (Reps.none _ _)); intro v3 w3 ho4 hb hg_ hnew_; clear hg_ hnew_; have HO := Aside0.mk ho4; have HB3 := Aside0.mk hb; clear hb ho4 HB)
      | ((with_reducible refine gate_dst (N := 10) rfl ?_); at_builtin; refine Kd.R_append_rows (Kd.int .u8) (w0 := w) w.heap.size rfl (.tmp 8) (.tmp 9) 28 5 (.int .u8 0) 1 rfl Try.underlying28 INF.out rfl (by decide) (by omega) v3 [] b' _ _ _ (fun _ => True) (fun _ => False) rfl rfl ?aO ?aR (fun _ _ h => h) (fun _ h => h.elim) ?aF ?aB ?aS ?aL ?_; (case aR => exact Kd.C_below HR.out HB3.out); (case aB => exact HB3.out); (case aF => exact (fun _ _ => trivial)); (case aO => exact HO.out); (case aS => exact HB3.out.size); (case aL => have := HL.out; simp; omega); intro v5 w5 ho hb hg hat; have HO5 := Aside0.mk ho; have HB5 := Aside0.mk hb; clear ho hb hg hat))
    trace_state
    go_ret
    exact ⟨_, rfl, by simpa using HO5.out, HB5.out⟩
  · have hl : b.take 512 = b := List.take_of_length_le (by omega)
    rw [hl]
    have h1 : (decide ((b.length : Int) > 512)) = false := decide_eq_false (by omega)
    have HR := Aside0.mk hr
    have HL := Aside0.mk h
    clear hr hl
    go_enter Try.func10, Try.ntmps10
    go_wp2_with (first
      | ((with_reducible refine gate_dst (N := 8) rfl ?_); refine Kd.R_lit (Kd.int .u8) _ 5 ?hg (N := 8) ?hd (xs := ([] : List Int)) (inner := []) (ok := fun _ => True) (okp := fun _ => True) ?hr ?hp (fun _ hk => hk) trivial (Below.refl _ _) (Nat.le_refl _) (by simp) ?_; (case hd => rfl); (case hg => rfl); (case hr => first | (go_simp; done) | (go_simp; rfl)); (case hp => exact (Reps.none _ _)); intro v3 w3 ho4 hb hg_ hnew_; clear hg_ hnew_; have HO := Aside0.mk ho4; have HB3 := Aside0.mk hb; clear hb ho4 HB)
      | ((with_reducible refine gate_dst (N := 10) rfl ?_); at_builtin; refine Kd.R_append_rows (Kd.int .u8) (w0 := w) w.heap.size rfl (.tmp 8) (.tmp 9) 28 5 (.int .u8 0) 1 rfl Try.underlying28 INF.out rfl (by decide) (by omega) v3 [] b _ _ _ (fun _ => True) (fun _ => False) rfl rfl ?aO ?aR (fun _ _ h => h) (fun _ h => h.elim) ?aF ?aB ?aS ?aL ?_; (case aR => exact Kd.C_below HR.out HB3.out); (case aB => exact HB3.out); (case aF => exact (fun _ _ => trivial)); (case aO => exact HO.out); (case aS => exact HB3.out.size); (case aL => have := HL.out; simp; omega); intro v5 w5 ho hb hg hat; have HO5 := Aside0.mk ho; have HB5 := Aside0.mk hb; clear ho hb hg hat))
    go_ret
    exact ⟨_, rfl, by simpa using HO5.out, HB5.out⟩
end Go.Proofs.Ytnaegemldpfllaa.Dis
