/- Wal: DeleteFunc, walked by hand. -/
import Derived.Test.YtmghgghheebnjaaWalG
namespace Go.Proofs.Ytmghgghheebnjaa.Dis
open Go.RowKit Go.Proofs.YtmghgghheebnjaaW.PrintWords Go.Proofs.YtmghgghheebnjaaW.PrintLast Go.Proofs.YtmghgghheebnjaaW.PrintMore Go.Maps Go.Proofs.Ytmghgghheebnjaa.PWalRecords
set_option linter.unusedVariables false
set_option linter.unusedSimpArgs false
theorem add0 (g m : Nat) : Addr.add ⟨g, 0, none⟩ m = ⟨g, m, none⟩ := by
  unfold Addr.add
  split
  · rename_i h; rw [h]
  · simp
theorem und23 (w : World) : (underlying 23).run Try.prog w = .ok (.slice 58) w := by kernel_rfl
theorem size58' (w : World) : (sizeOf 58).run Try.prog w = .ok 2 w := by kernel_rfl
theorem zero58' (w : World) : (zeroValue 58).run Try.prog w = .ok (.agg #[.int .i64 0, .slice none 0 0]) w := by kernel_rfl
theorem ex_lo2 {o : Oper} {a : Act} {W : World} {x y : Operand} {g n c m : Nat} (ho : o.op = .slice 23 x (some y) none none) (hx : a.eval x = .slice (some ⟨g, 0, none⟩) n c) (hy : a.eval y = .int .i64 ((m : Nat) : Int)) (h : m < n) (hc : n ≤ c) : (execOp a.eval o).run Try.prog W = .ok (.value (.slice (some ⟨g, m * 2, none⟩) (n - m) (c - m))) W := by
  have hcm : ¬ c = m := by omega
  have e1 : (Instr.slice 23 (Value.slice (some ⟨g, 0, none⟩) n c) (some (Value.int IntKind.i64 ((m : Nat) : Int))) none none).run Try.prog W = .ok (.slice (some ⟨g, m * 2, none⟩) (n - m) (c - m)) W := by
    have hm : (m : Int) ≤ n := by omega
    simp [Instr.slice, Instr.sliceBounds, Instr.sliceBound, asIntOf, und23, size58', Nat.le_of_lt h, hm, hcm, add0]
  have e2 : (Instr.sliceAt 23 (Value.slice (some ⟨g, 0, none⟩) n c) (some (Value.int IntKind.i64 ((m : Nat) : Int))) none none).run Try.prog W = .ok (.slice (some ⟨g, m * 2, none⟩) (n - m) (c - m)) W := by
    simp [Instr.sliceAt, und23, e1]
  simp [execOp, ho, hx, hy, e2]
/-- An element of an own row of pages. -/
theorem el58 {W : World} {base : Nat} {ok : Nat → Prop} {g n cap : Nat} {xs : List S58} (h : Kd.R k58 58 W base ok (.slice (some ⟨g, 0, none⟩) n cap) xs) (k : Nat) (hk : k < n) :
    ∃ A1 c1, W.cell? ⟨g, k * 2, none⟩ = some (.int .i64 (xs.getD k z58).f0) ∧ W.cell? ⟨g, k * 2 + 1, none⟩ = some (.slice A1 (xs.getD k z58).f1.length c1) ∧ Kd.R byteK 5 W base (fun k => ok k ∧ k ≠ g) (.slice A1 (xs.getD k z58).f1.length c1) (xs.getD k z58).f1 := by
  have hn := (Kd.R_reads' h).1
  obtain ⟨h0, inner, hown, hr⟩ := h
  rcases hown.2 with ⟨hv, _⟩ | ⟨g', cap', cur, hv, hg, hh, hcap, hmax, hsz, hcur⟩
  · cases hv
  · injection hv with ha hn' hc
    injection ha with ha
    injection ha with ha
    subst ha
    have hp := hr.2 k (xs.getD k z58) (by rw [List.getD_eq_getElem?_getD, List.getElem?_eq_getElem (by omega)]; rfl)
    obtain ⟨v1, he, hv1⟩ := k58_openM hp
    obtain ⟨A1, c1, rfl⟩ := Kd.R_slice hv1
    have hcell : ∀ i u, ([Value.int .i64 (xs.getD k z58).f0, .slice A1 (xs.getD k z58).f1.length c1] : List Value)[i]? = some u → W.cell? ⟨g, k * 2 + i, none⟩ = some u := by
      intro i u hi
      rw [← he] at hi
      have h2 : cur[k * 2 + i]? = some u := by
        have hsz2 : k58.sz = 2 := rfl
        rw [hsz2] at hi hcur
        rw [List.getElem?_take] at hi
        split at hi
        · rw [List.getElem?_drop, ← hcur, List.getElem?_take] at hi
          split at hi
          · rw [← Array.getElem?_toList]; exact hi
          · cases hi
        · cases hi
      exact (blk_cell hh (k * 2 + i)).trans h2
    refine ⟨A1, c1, hcell 0 _ rfl, hcell 1 _ rfl, Kd.R_mono hv1 (fun q hq => ⟨hq.1, fun e => hq.2 (by rw [e]; rfl)⟩)⟩
theorem reps_app {α : Type} {R : α → List Value → Prop} {sz : Nat} {ps qs : List α} {cs ds : List Value} (h : Reps R sz ps cs) (h' : Reps R sz qs ds) : Reps R sz (ps ++ qs) (cs ++ ds) := by
  refine ⟨by rw [List.length_append, List.length_append, h.1, h'.1, Nat.add_mul], fun j p hj => ?_⟩
  by_cases hlt : j < ps.length
  · rw [List.getElem?_append_left hlt] at hj
    have h1 := h.2 j p hj
    have h2 : (j + 1) * sz ≤ ps.length * sz := Nat.mul_le_mul_right _ hlt
    rw [Nat.add_mul, Nat.one_mul, ← h.1] at h2
    rw [List.drop_append_of_le_length (by omega), List.take_append_of_le_length (by rw [List.length_drop]; omega)]
    exact h1
  · rw [List.getElem?_append_right (by omega)] at hj
    have h1 := h'.2 _ p hj
    have h2 : ps.length * sz ≤ j * sz := Nat.mul_le_mul_right _ (by omega)
    rw [List.drop_append, List.drop_of_length_le (by rw [h.1]; exact h2), List.nil_append, h.1, ← Nat.sub_mul]
    exact h1
theorem reps_take {α : Type} {R : α → List Value → Prop} {sz m : Nat} {ps : List α} {cs : List Value} (h : Reps R sz ps cs) (hm : m ≤ ps.length) : Reps R sz (ps.take m) (cs.take (m * sz)) := by
  have hle : m * sz ≤ cs.length := by rw [h.1]; exact Nat.mul_le_mul_right _ hm
  refine ⟨by rw [List.length_take, List.length_take, Nat.min_eq_left hle, Nat.min_eq_left hm], fun j p hj => ?_⟩
  have hjm : j < m := by
    have := (List.getElem?_eq_some_iff.1 hj).1
    rw [List.length_take] at this
    omega
  rw [List.getElem?_take, if_pos hjm] at hj
  have h2 : (j + 1) * sz ≤ m * sz := Nat.mul_le_mul_right _ hjm
  rw [Nat.add_mul, Nat.one_mul] at h2
  rw [List.drop_take, List.take_take, Nat.min_eq_left (by omega)]
  exact h.2 j p hj
/-- clear of what is behind the first ones of an own row of pages. -/
theorem clear_R {W : World} {base : Nat} {g n cap m : Nat} {xs : List S58} (h : Kd.R k58 58 W base tt (.slice (some ⟨g, 0, none⟩) n cap) xs) (hm : m < n) :
    ∃ w', (storeCells ⟨g, m * 2, none⟩ (Builtin.zeroCells #[.int .i64 0, .slice none 0 0] (n - m)).toList).run Try.prog W = .ok () w' ∧ Kd.R k58 58 w' base tt (.slice (some ⟨g, 0, none⟩) n cap) (xs.take m ++ List.replicate (n - m) z58) ∧ W.grownBy w' (some g) := by
  have hn := (Kd.R_reads' h).1
  obtain ⟨h0, inner, hown, hr⟩ := h
  rcases hown.2 with ⟨hv, _⟩ | ⟨g', cap', cur, hv, hg, hh, hcap, hmax, hsz, hcur⟩
  · cases hv
  injection hv with ha hn' hc
  injection ha with ha
  injection ha with ha
  subst ha
  subst hc
  have hs2 : k58.sz = 2 := rfl
  rw [hs2] at hsz hcur
  have hz := Kd.reps_zeros (R := fun x cs => ∀ W' base' ok', k58.M W' base' ok' x cs) (z := .agg #[.int .i64 0, .slice none 0 0]) (size := 2) (z0 := z58) rfl (by decide) (fun W' base' ok' => k58_mkM W' base' ok' z58 (Kd.R_nil _ _ _ _ _)) (n - m)
  have hz0 : (Value.agg #[.int .i64 0, .slice none 0 0]).cells = #[.int .i64 0, .slice none 0 0] := rfl
  rw [hz0] at hz
  generalize (Builtin.zeroCells #[.int .i64 0, .slice none 0 0] (n - m)).toList = zs at hz ⊢
  have hzl : zs.length = (n - m) * 2 := by rw [hz.1, List.length_replicate]
  have hz1 : ∀ v ∈ zs, v.oneCell' = true := by
    intro v hv
    obtain ⟨j, hj, rfl⟩ := List.getElem_of_mem hv
    have h1 := hz.2 (j / 2) z58 (by rw [List.getElem?_replicate, if_pos (by omega)])
    have h2 := k58.K_one (k58.K_of_M (h1 W base tt))
    apply h2
    have h3 : j = j / 2 * 2 + j % 2 := by omega
    refine List.mem_iff_getElem?.2 ⟨j % 2, ?_⟩
    rw [List.getElem?_take, if_pos (by omega), List.getElem?_drop, ← h3, List.getElem?_eq_getElem hj]
  have hcl : cur.toList.length = cap * 2 := by rw [Array.length_toList, hsz]
  have hrun := run_storeCells_at (P := Try.prog) g (m * 2) 58 zs 0 cur W hh (by omega) hz1
  rw [Nat.add_zero, hzl, show m * 2 + (n - m) * 2 = n * 2 by omega] at hrun
  have hinl : inner.length = n * 2 := by rw [← hcur, List.length_take, hcl]; omega
  have htk : cur.toList.take (m * 2) = inner.take (m * 2) := by rw [← hcur, List.take_take, Nat.min_eq_left (by omega)]
  refine ⟨_, hrun, ?_, ⟨rfl, rfl, rfl, by simp, fun k hk hne => setRow_other _ _ _ _ (fun e => hne (by rw [e]))⟩⟩
  obtain ⟨w', hw'⟩ : ∃ w', w' = W.setRow g (cur.toList.take (m * 2) ++ zs ++ cur.toList.drop (n * 2)).toArray := ⟨_, rfl⟩
  rw [← hw']
  have hh' : w'.heap[g]? = some (.cells (cur.toList.take (m * 2) ++ zs ++ cur.toList.drop (n * 2)).toArray 58 (0, 0)) := by rw [hw']; exact setRow_heap W g cur _ 58 (0, 0) hh
  have hmv : ∀ k, k ≠ g → w'.heap[k]? = W.heap[k]? := fun k hk => by rw [hw']; exact setRow_other _ _ _ _ hk
  have hxl : (xs.take m ++ List.replicate (n - m) z58).length = n := by rw [List.length_append, List.length_take, List.length_replicate]; omega
  refine ⟨fun _ _ => trivial, inner.take (m * 2) ++ zs, ?_, ?_⟩
  · rw [hxl]
    refine ⟨by rw [hs2, List.length_append, List.length_take, hzl, hinl]; omega, .inr ⟨g, cap, _, rfl, hg, hh', by omega, hmax, ?_, ?_⟩⟩
    · rw [hs2, List.size_toArray, List.length_append, List.length_append, List.length_take, List.length_drop, hcl, hzl]; omega
    · rw [hs2, htk]
      show (List.take (m * 2) inner ++ zs ++ List.drop (n * 2) cur.toList).take (n * 2) = _
      rw [List.take_append_of_le_length (by rw [List.length_append, List.length_take, hzl, hinl]; omega), List.take_of_length_le (by rw [List.length_append, List.length_take, hzl, hinl]; omega)]
  · refine reps_app (reps_take ?_ (by omega)) ?_
    · refine Reps.imp_ hr (fun p c hp => ?_)
      exact k58.M_move (fun k hk => hmv k (fun e => hk.2 (by rw [e]; rfl))) hp
    · exact Reps.imp_ hz (fun p c hp => hp _ _ _)
theorem run_clear {W w1 : World} {g m n c' : Nat} {ty : TypeId} (hm : m < n) (h : (storeCells ⟨g, m * 2, none⟩ (Builtin.zeroCells #[.int .i64 0, .slice none 0 0] (n - m)).toList).run Try.prog W = .ok () w1) :
    (Builtin.clear_ #[23] ty #[.slice (some ⟨g, m * 2, none⟩) (n - m) c']).run Try.prog W = .ok (.tuple #[]) w1 := by
  have hz : (Value.agg #[.int .i64 0, .slice none 0 0]).cells = #[.int .i64 0, .slice none 0 0] := rfl
  obtain ⟨q, hq⟩ : ∃ q, n - m = q + 1 := ⟨n - m - 1, by omega⟩
  rw [hq] at h ⊢
  unfold Builtin.clear_
  simp [und23, zero58', hz, h]
theorem wl_clear {ops : Array Oper} {rest : List Oper} {o : Oper} {a : Act} {Q : Exit → Act → World → Prop} {w0 W : World} (base : Nat) (hN : o.dst = none) (hgd : o.guard = none) (x : Operand) (ho : o.op = .call { callee := .builtin .clear, args := #[x], argTypes := #[23] })
    {g m n cap c' : Nat} {xs : List S58} (hx : a.eval x = .slice (some ⟨g, m * 2, none⟩) (n - m) c') (hm : m < n) (HO : Kd.R k58 58 W base tt (.slice (some ⟨g, 0, none⟩) n cap) xs) (HB : Below base w0 W) (hbase : base ≤ W.heap.size)
    (h : ∀ w1, Kd.R k58 58 w1 base tt (.slice (some ⟨g, 0, none⟩) n cap) (xs.take m ++ List.replicate (n - m) z58) → Below base w0 w1 → wpList Try.prog ops Q rest a w1) : wpList Try.prog ops Q (o :: rest) a W := by
  obtain ⟨w1, hr1, h1, hg⟩ := clear_R HO hm
  have hr := run_clear (ty := o.type) (c' := c') hm hr1
  refine wpList_plain hgd fun K hK => ?_
  unfold Oper.wp execOp
  simp only [ho, resolve, invoke, builtin, Sem.run_bind, Sem.run_pure, Result.andThen_ok, List.map_toArray, List.map_cons, List.map_nil, hx, hr]
  refine hK _ _ ?_
  rw [hN]
  exact h w1 h1 (HB.grown hg hbase (Kd.R_base HO))
end Go.Proofs.Ytmghgghheebnjaa.Dis
