/- The disk's writes from behind (slices.Backward), walked by hand: its closure at every loop body. -/
import Derived.Test.YtmghgghheebnjaaDisY
import Derived.RangeFuncNested
import Derived.RangeFuncBound
import Derived.RangeFuncCalls
import Derived.RangeFuncLeaves
import Derived.Shelf.Abstract
import Derived.Shelf.RegionOpen
import Derived.WalkKit
import Derived.OwnWalkIn
import Derived.TacticsInMore
import Derived.LoopNIn
import Derived.LoopIn
namespace Go.Proofs.Ytmghgghheebnjaa.Dis
open Go.RowKit Go.Shelf Go.Proofs.YtmghgghheebnjaaW.PrintWords Go.Proofs.YtmghgghheebnjaaW.PrintLast Go.Proofs.YtmghgghheebnjaaW.PrintMore Go.Maps
set_option linter.unusedVariables false
set_option linter.unusedSimpArgs false
attribute [local go_sem] Oper.semAt_some
section
variable {P : Program} {F : Fence} {n : Nat} {ops : Array Oper} {rest : List Oper} {o : Oper} {a : Act} {Q : Exit → Act → World → Prop}
theorem eventIn_run {W w1 : World} {v : Value} (hF : ∀ f, F.fn f) (hgd : o.guard = none) (hd : ∀ c, o.op ≠ .defer c) (hrun : (execOp a.eval o).run P W = .ok (.value v) w1) (h : wpListIn F n P ops Q rest (a.put o.dst v) w1) : wpListIn F n P ops Q (o :: rest) a W := by
  refine wpListIn_plain hgd fun K hK => ?_
  unfold Oper.wpIn
  refine ⟨fun f _ => hF f, ?_⟩
  rw [Oper.semAt_plain F _ _ hd, hrun]
  exact hK _ _ h
theorem eventIn_skip {W w1 : World} (hF : ∀ f, F.fn f) (hgd : o.guard = none) (hd : ∀ c, o.op ≠ .defer c) (hn : o.dst = none) (hrun : (execOp a.eval o).run P W = .ok .skip w1) (h : wpListIn F n P ops Q rest a w1) : wpListIn F n P ops Q (o :: rest) a W := by
  refine wpListIn_plain hgd fun K hK => ?_
  unfold Oper.wpIn
  refine ⟨fun f _ => hF f, ?_⟩
  rw [Oper.semAt_plain F _ _ hd, hrun]
  refine hK _ _ ?_
  rw [hn]; exact h
theorem wi_alloc (hF : ∀ f, F.fn f) {W : World} (t : TypeId) (z : Value) (hz : ∀ w, (zeroValue t).run P w = .ok z w) (hgd : o.guard = none) (ho : o.op = .alloc t)
    (h : ∀ g, g = W.heap.size → ∀ w1, w1.heap[g]? = some (.cells z.cells t (0, 0)) → w1 = W.alloc (.cells z.cells t) → wpListIn F n P ops Q rest (a.put o.dst (.pointer (some ⟨g, 0, none⟩))) w1) : wpListIn F n P ops Q (o :: rest) a W := by
  refine eventIn_run hF hgd (by rw [ho]; intro c hc; cases hc) (v := .pointer (some ⟨W.heap.size, 0, none⟩)) (w1 := W.alloc (.cells z.cells t)) ?_ (h _ rfl _ (blk_new W _) rfl)
  simp [execOp, ho, run_alloc_any hz]
theorem wi_store (hF : ∀ f, F.fn f) {W : World} (t : TypeId) (x v : Operand) (ho : o.op = .store t x v) (hgd : o.guard = none) (hd : o.dst = none) (g off : Nat) (cs : List Value) (hx : a.eval x = .pointer (some ⟨g, off, none⟩)) (hv : a.eval v = .agg cs.toArray)
    (cur : Array Value) (u : TypeId) (hi : (P.info? t).map (·.size) = some cs.length) (hg : W.heap[g]? = some (.cells cur u (0, 0))) (hf : off + cs.length ≤ cur.size) (h1 : ∀ v ∈ cs, v.oneCell' = true)
    (h : ∀ w1, w1.heap[g]? = some (.cells (cur.toList.take off ++ cs ++ cur.toList.drop (off + cs.length)).toArray u (0, 0)) → W.grownBy w1 (some g) → wpListIn F n P ops Q rest a w1) : wpListIn F n P ops Q (o :: rest) a W := by
  refine eventIn_skip hF hgd (by rw [ho]; intro c hc; cases hc) hd (w1 := W.setRow g (cur.toList.take off ++ cs ++ cur.toList.drop (off + cs.length)).toArray) ?_ (h _ (setRow_same hg) (setRow_grown W g _))
  simp [execOp, ho, hx, hv, run_store_any hi hg hf h1]
theorem wi_load (hF : ∀ f, F.fn f) {W : World} (t : TypeId) (x : Operand) (ho : o.op = .load t x) (hgd : o.guard = none) (ad : Addr) (cs : List Value) (hx : a.eval x = .pointer (some ad)) (d : TypeDesc) (hu : P.underlying t = some d) (hd : (match d with | .struct _ | .array _ _ => true | _ => false) = true)
    (hi : (P.info? t).map (·.size) = some cs.length) (hc : ∀ j v, cs[j]? = some v → W.cell? (ad.add j) = some v) (h : wpListIn F n P ops Q rest (a.put o.dst (.agg cs.toArray)) W) : wpListIn F n P ops Q (o :: rest) a W := by
  refine eventIn_run hF hgd (by rw [ho]; intro c hc; cases hc) ?_ h
  simp [execOp, ho, hx, run_load_any hu hd hi hc]
theorem gate_dstIn {N : Tmp} {W : World} (_hN : o.dst = some N) (h : wpListIn F n P ops Q (o :: rest) a W) : wpListIn F n P ops Q (o :: rest) a W := h
theorem gate_storeIn {t : TypeId} {p : Tmp} {v : Operand} {W : World} (_ho : o.op = .store t (.tmp p) v) (h : wpListIn F n P ops Q (o :: rest) a W) : wpListIn F n P ops Q (o :: rest) a W := h
end
theorem wideR (l : Nat) : ∀ f, (Fence.wide.inRound l).fn f := fun _ => trivial
theorem wideF : ∀ f, Fence.wide.fn f := fun _ => trivial
/-- slices.Backward(s): the slice value is boxed; the function value captures the box. -/
theorem backward_calls (A : Option Addr) (k c : Nat) (w : World) : Calls Try.prog 69 #[.slice A k c] w fun e w' => e = .returned (.func (.func 75) #[] #[.pointer (some ⟨w.heap.size, 0, none⟩)]) ∧ w' = w.alloc (.cells #[.slice A k c] 86) := by
  go_enter Try.func69, Try.ntmps69
  go_wp2
  go_ret
  exact ⟨rfl, rfl⟩
/-! ### what comes -/
abbrev Wr := { x : Int × Int × List Int // Sec x.2.2 }
def wrA (x : Wr) : Array Value := #[.int .i64 x.1.1, wrV x.1.2.1 x.1.2.2]
def upto {α : Type} (f : Nat → α) (k : Nat) : List α := (List.range k).map f
theorem upto_succ {α : Type} (f : Nat → α) (k : Nat) : upto f (k + 1) = upto f k ++ [f k] := by simp [upto, List.range_succ]
theorem upto_length {α : Type} (f : Nat → α) (k : Nat) : (upto f k).length = k := by simp [upto]
def wrs (l : List (Int × List Int)) (hl : ∀ x ∈ l, Sec x.2) (j : Nat) : Wr := ⟨((l.length : Int) - 1 - j, l.getD (l.length - 1 - j) (0, zeros)), by
  show Sec (l.getD (l.length - 1 - j) (0, zeros)).2
  rw [List.getD_eq_getElem?_getD]
  cases h : l[l.length - 1 - j]? with
  | none => exact sec_zeros
  | some x => exact hl x (List.mem_of_getElem? h)⟩
theorem wr_cells {W : World} {A : Option Addr} {l : List (Int × List Int)} (h : wrK.C W A l.length l) (k : Nat) (hk : k < l.length) :
    ∃ ad, A = some ad ∧ ∀ j v, (wrC (l.getD k (0, zeros)).1 (l.getD k (0, zeros)).2)[j]? = some v → W.cell? ((ad.add (k * 513)).add j) = some v := by
  obtain ⟨ad, c, hA, hl, hK, hc⟩ := Kd.C_get h (0, zeros) (k : Int) (by omega) (by omega)
  simp only [Int.toNat_natCast] at hK hc
  refine ⟨ad, hA, fun j v hj => ?_⟩
  rw [Go.Proofs.YtmghgghheebnjaaW.PrintWords.add_add]
  exact hc j v (by rw [hK.1]; exact hj)
set_option maxRecDepth 100000 in
set_option maxHeartbeats 2000000 in
/-- slices.Backward's closure, for every loop body that keeps what lay below n₀. -/
theorem back_in (n : Nat) (hn : 1 ≤ n) (l Bs n₀ c : Nat) (A : Option Addr) (ws : List (Int × List Int)) (hws : ∀ x ∈ ws, Sec x.2) (hlen : ws.length ≤ 1000000) (J Jx : List Wr → World → Prop)
    (hY : ∀ pre x W, J pre W → pre.length < ws.length → YieldAt Fence.wide (n - 1) Try.prog l (wrA x) W fun e W' =>
      (e = .returned (.bool true) ∧ J (pre ++ [x]) W' ∧ Below n₀ W W') ∨ (e = .returned (.bool false) ∧ Jx (pre ++ [x]) W'))
    (W : World) (hBn : Bs < n₀) (hBs : W.cell? ⟨Bs, 0, none⟩ = some (.slice A ws.length c)) (hc : ∀ W', Below n₀ W W' → wrK.C W' A ws.length ws) (h0 : J [] W) :
    CallsIn Fence.wide n Try.prog 75 #[.func (.yield l) #[] #[], .pointer (some ⟨Bs, 0, none⟩)] W fun e W' => (∃ v, e = .returned v) ∧
      ((∃ ys, ys = upto (wrs ws hws) ws.length ∧ J ys W') ∨ (∃ pre, (∃ k, k ≤ ws.length ∧ pre = upto (wrs ws hws) k) ∧ Jx pre W')) := by
  refine callsIn_of_wp Try.func75 rfl trivial ?_ rfl
  simp only [Try.ntmps75, List.size_toArray, List.length_cons, List.length_nil, Nat.reduceAdd, Nat.reduceSub, Array.replicate_succ, Array.replicate_zero, List.push_toArray, List.append_toArray, List.nil_append, List.cons_append]
  obtain ⟨f, hf⟩ : ∃ f, f = wrs ws hws := ⟨_, rfl⟩
  rw [← hf]
  have HF := Aside0.mk hf
  have HC := Aside0.mk hc
  clear hc hf
  obtain ⟨m, hm⟩ : ∃ m, m = ws.length := ⟨_, rfl⟩
  rw [← hm] at hBs hlen hY ⊢
  have HM := Aside0.mk hm
  clear hm
  have hw1 : IntKind.i64.wrap ((m : Int) - 1) = (m : Int) - 1 := by rw [IntKind.wrap_i64]; omega
  gi_wp2
  have z0 : (0 : Int) ≤ (m : Int) := by omega
  gi_loopw [3] (fun i wr => ∃ k : Nat, k ≤ m ∧ i = .int .i64 ((m : Int) - 1 - k) ∧ J (upto f k) wr ∧ Below n₀ W wr)
    (fun i _ => (intOf i + 1).toNat)
  case atStart => exact ⟨0, Nat.zero_le _, by simp, h0, Below.refl _ _⟩
  case round =>
    obtain ⟨k, hk, rfl, hJs, hnx⟩ := hrel
    have HJ := Aside0.mk hJs
    have HN := Aside0.mk hnx
    have hcs := (hnx.cell (p := ⟨Bs, 0, none⟩) hBn).trans hBs
    by_cases hlt : k < m
    · obtain ⟨ad, hA, hcl⟩ := wr_cells (HC.out wr hnx) (m - 1 - k) (by rw [← HM.out]; omega)
      obtain ⟨cs, hcsq⟩ : ∃ cs, cs = wrC (ws.getD (m - 1 - k) (0, zeros)).1 (ws.getD (m - 1 - k) (0, zeros)).2 := ⟨_, rfl⟩
      rw [← hcsq] at hcl
      subst hA
      have HCL := Aside0.mk hcl
      have HSZ := Aside0.mk (show (Try.prog.info? 106).map (·.size) = some cs.length by rw [hcsq, wrC_len (by have := (wrs ws hws k).2; rw [HM.out]; exact this)]; exact size58)
      obtain ⟨fn, tmps, assign, body, hy, hR⟩ := hY _ (f k) wr hJs (by rw [upto_length]; exact hlt)
      have hy' : (Instr.yield l #[.int .i64 ((m : Int) - 1 - k), .agg cs.toArray]).run Try.prog wr = .ok (.round l fn tmps assign body) wr := by
        have e : wrA (f k) = #[.int .i64 ((m : Int) - 1 - k), .agg cs.toArray] := by rw [HF.out, hcsq, HM.out]; rfl
        rw [← e]; exact hy
      have HR := Aside0.mk hR
      have HCQ := Aside0.mk hcsq
      clear hcl hcsq hy hR hJs hnx
      have e1 : decide ((m : Int) - 1 - k ≥ 0) = true := decide_eq_true (by omega)
      have hix : ((m : Int) - 1 - k).toNat = m - 1 - k := by omega
      have hin : 0 ≤ (m : Int) - 1 - k ∧ (m : Int) - 1 - k < m := by omega
      gi_wp2_with (first
        | ((with_reducible refine gate_dstIn (N := 16) rfl ?_); refine wi_load (fun _ => trivial) 106 (.tmp 15) rfl rfl (ad.add ((m - 1 - k) * 513)) cs rfl _ Try.underlying106 rfl HSZ.out HCL.out ?_))
      refine HR.out.mono ?_
      rintro e W3 (⟨rfl, hJ3, hk3⟩ | ⟨rfl, hJx3⟩)
      · have HJ3 := Aside0.mk hJ3
        have HK3 := Aside0.mk hk3
        have hw2 : IntKind.i64.wrap ((m : Int) - 1 - k - 1) = (m : Int) - 1 - k - 1 := by rw [IntKind.wrap_i64]; omega
        clear hJ3 hk3
        gi_wp2
        go_roundw
        case rel => exact ⟨k + 1, by omega, by simp; omega, by rw [upto_succ]; exact HJ3.out, HN.out.trans HK3.out⟩
        case measure => simp [intOf]; omega
      · have HJ3 := Aside0.mk hJx3
        clear hJx3
        gi_wp2
        refine bodyPost_ret (results_none rfl _ _ _) rfl ?_
        exact ⟨⟨_, rfl⟩, .inr ⟨_, ⟨k + 1, by omega, (upto_succ _ _).symm⟩, HJ3.out⟩⟩
    · obtain rfl : k = m := by omega
      have e1 : decide ((k : Int) - 1 - k ≥ 0) = false := decide_eq_false (by omega)
      gi_wp2
      go_end0
      exact ⟨⟨_, rfl⟩, .inl ⟨_, rfl, HJ.out⟩⟩
end Go.Proofs.Ytmghgghheebnjaa.Dis
