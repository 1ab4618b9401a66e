/- Disk.Bytes, walked by hand. -/
import Derived.Test.YtmghgghheebnjaaDisN
namespace Go.Proofs.Ytmghgghheebnjaa.Dis
open Go.RowKit Go.Proofs.YtmghgghheebnjaaW.PrintWords Go.Proofs.YtmghgghheebnjaaW.PrintLast Go.Proofs.YtmghgghheebnjaaW.PrintMore Go.Maps
set_option linter.unusedVariables false
set_option linter.unusedSimpArgs false
def bytesD (d : D) (i : Int) : List Int := if i < 0 ∨ d.n ≤ i then [] else d.fast i
theorem wl_lookup {ops : Array Oper} {rest : List Oper} {o : Oper} {a : Act} {Q : Exit → Act → World → Prop} {W : World} (m x : Operand) (ho : o.op = .lookup 85 m x false) (hgd : o.guard = none) {b n : Nat} {f : Int → List Int} (hM : MapIs W b n f) (i : Int) (hi : I64 i)
    (hm : a.eval m = .map (some b)) (hx : a.eval x = .int .i64 i) (h : wpList Try.prog ops Q rest (a.put o.dst (secV (f i))) W) : wpList Try.prog ops Q (o :: rest) a W := by
  refine Kd.event_run hgd ?_ h
  simp [execOp, ho, hm, hx, hM.look i hi (zero56 W)]
theorem secC_one (s : List Int) : ∀ v ∈ secC s, v.oneCell' = true := nums_one s
theorem sec_fit (s : List Int) (hs : Sec s) : 0 + (secC s).length ≤ (secV zeros).cells.size := by
  rw [secC_len hs]
  show _ ≤ (secC zeros).toArray.size
  rw [List.size_toArray, secC_len sec_zeros]; omega
theorem sec_store {w : World} {g : Nat} {s : List Int} (hs : Sec s) (h : w.heap[g]? = some (.cells ((secV zeros).cells.toList.take 0 ++ secC s ++ (secV zeros).cells.toList.drop (0 + (secC s).length)).toArray 94 (0, 0))) : w.heap[g]? = some (.cells (secC s).toArray 94 (0, 0)) := by
  rw [h]
  have e : (secV zeros).cells.toList.drop (0 + (secC s).length) = [] := List.drop_eq_nil_of_le (by
    rw [secC_len hs]
    show (secC zeros).toArray.toList.length ≤ _
    rw [List.toList_toArray, secC_len sec_zeros]; omega)
  rw [e]
  simp
theorem sec_C {w : World} {g : Nat} {s : List Int} (hs : Sec s) (h : w.heap[g]? = some (.cells (secC s).toArray 94 (0, 0))) : Kd.C (Kd.int .u8) w (some ⟨g, 0, none⟩) s.length s := by
  refine ⟨rfl, by have := hs.1; omega, fun _ => ⟨_, rfl, fun j p hj => ⟨[.int .u8 p], rfl, rfl, fun k u hk => ?_⟩⟩⟩
  cases k with
  | succ k => simp at hk
  | zero =>
    have hu : u = .int .u8 p := by simpa using hk.symm
    subst hu
    have hadd : (⟨g, 0, none⟩ : Addr).add (j * (Kd.int .u8).sz + 0) = ⟨g, j, none⟩ := by
      have : (Kd.int .u8).sz = 1 := rfl
      rw [this]; unfold Addr.add; split <;> simp_all
    rw [hadd, blk_cell h j]
    simp [secC, nums, hj]
theorem clone512 (g : Nat) (s : List Int) (hs : Sec s) (W : World) (h : W.heap[g]? = some (.cells (secC s).toArray 94 (0, 0))) :
    Calls Try.prog 56 #[.slice (some ⟨g, 0, none⟩) 512 512] W fun e w' => ∃ v, e = .returned v ∧ Kd.R (Kd.int .u8) 5 w' W.heap.size (fun _ => True) v s ∧ Below W.heap.size W w' := by
  have := clone_calls (some ⟨g, 0, none⟩) 512 s W (sec_C hs h) (by rw [hs.1]; omega) (by rw [hs.1]; omega) (by rw [hs.1]; omega)
  rwa [hs.1] at this
set_option maxHeartbeats 1000000 in
theorem bytes_calls (base g : Nat) (d : D) (i : Int) (hi64 : I64 i) (W : World) (h : IsD base W g d) :
    Calls Try.prog 26 #[.pointer (some ⟨g, 0, none⟩), .int .i64 i] W fun e w' => ∃ v, e = .returned v ∧ Kd.R (Kd.int .u8) 5 w' W.heap.size (fun _ => True) v (bytesD d i) ∧ Below W.heap.size W w' := by
  obtain ⟨_, bm, v, m, hb, _, _, _, hM, _⟩ := h
  have c0 : W.cell? ⟨g, 0, none⟩ = some (.int .i64 d.n) := (blk_cell hb 0).trans rfl
  have f0 := blk_frozen hb 0
  have c1 : W.cell? ⟨g, 1, none⟩ = some (.map (some bm)) := (blk_cell hb 1).trans rfl
  have HM := Aside0.mk hM
  clear hb hM
  unfold bytesD
  by_cases h1 : i < 0
  · rw [if_pos (.inl h1)]
    have e1 : decide (i < 0) = true := decide_eq_true h1
    go_enter Try.func26, Try.ntmps26
    go_wp2
    go_ret
    exact ⟨_, rfl, Kd.R_nil _ _ _ _ _, Below.refl _ _⟩
  · by_cases h2 : d.n ≤ i
    · rw [if_pos (.inr h2)]
      have e1 : decide (i < 0) = false := decide_eq_false h1
      have e2 : decide (d.n ≤ i) = true := decide_eq_true h2
      go_enter Try.func26, Try.ntmps26
      go_wp2
      go_ret
      exact ⟨_, rfl, Kd.R_nil _ _ _ _ _, Below.refl _ _⟩
    · rw [if_neg (by omega)]
      have e1 : decide (i < 0) = false := decide_eq_false h1
      have e2 : decide (d.n ≤ i) = false := decide_eq_false h2
      have HS := Aside0.mk (HM.out.1 i)
      go_enter Try.func26, Try.ntmps26
      go_wp2_with (first
        | ((with_reducible refine gate_dst (N := 21) rfl ?_); refine wl_lookup (.tmp 19) (.tmp 20) rfl rfl HM.out i hi64 rfl rfl ?_)
        | ((with_reducible refine gate_dst (N := 5) rfl ?_); refine wl_alloc 94 (secV zeros) zero56 rfl rfl ?_; intro g8 hg8 w3 hb8 hbl; have H8 := Aside0.mk hb8; have HZ1 := Aside0.mk hbl; have HG8 := Aside0.mk (Nat.le_of_eq hg8.symm); clear hb8 hbl hg8)
        | ((with_reducible refine gate_store (t := 94) (p := 5) rfl ?_); refine wl_store 94 (.tmp 5) (.tmp 21) rfl rfl rfl g8 0 (secC (d.fast i)) rfl rfl _ 94 (by rw [secC_len HS.out]; exact size56) H8.out (sec_fit _ HS.out) (secC_one _) ?_; intro w4 hb8 hgr; have H8b := Aside0.mk (sec_store HS.out hb8); have HZ2 := Aside0.mk (HZ1.out.grown hgr HZ1.out.size (fun k e => by cases e; exact HG8.out)); clear hb8 hgr H8 HZ1)
        | (go_at_call 56; refine (clone512 g8 (d.fast i) HS.out _ H8b.out).mono ?_; rintro e w6 ⟨v6, rfl, ho6, hb6⟩; have HO6 := Aside0.mk ho6; have HB6 := Aside0.mk hb6; clear ho6 hb6))
      go_ret
      exact ⟨_, rfl, Kd.R_lower HO6.out HZ2.out.size, HZ2.out.trans (HB6.out.mono HZ2.out.size)⟩
end Go.Proofs.Ytmghgghheebnjaa.Dis
