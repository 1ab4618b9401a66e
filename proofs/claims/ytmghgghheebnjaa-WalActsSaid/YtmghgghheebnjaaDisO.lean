/- Great values in a walk (a sector, a written sector): loads, stores, new blocks, map entries at one operation, the value under a name. -/
import Derived.Test.YtmghgghheebnjaaDisA
import Derived.Great.BuildSlice
import Derived.Laws.CopyRow
namespace Go.Proofs.Ytmghgghheebnjaa.Dis
open Go.RowKit Go.Proofs.YtmghgghheebnjaaW.PrintWords Go.Proofs.YtmghgghheebnjaaW.PrintLast Go.Proofs.YtmghgghheebnjaaW.PrintMore Go.Maps
set_option linter.unusedVariables false
set_option linter.unusedSimpArgs false
section
variable {P : Program} {ops : Array Oper} {rest : List Oper} {o : Oper} {a : Act} {Q : Exit → Act → World → Prop}
theorem put_none (a : Act) (v : Value) : a.put none v = a := rfl
theorem event_skip {W w1 : World} (hgd : o.guard = none) (hd : o.dst = none) (hrun : (execOp a.eval o).run P W = .ok .skip w1) (h : wpList P ops Q rest a w1) : wpList P ops Q (o :: rest) a W := by
  refine wpList_plain hgd fun K hK => ?_
  unfold Oper.wp
  rw [hrun]
  refine hK _ _ ?_
  rw [hd]; exact h
theorem run_alloc_any {t : TypeId} {z : Value} (hz : ∀ w, (zeroValue t).run P w = .ok z w) (W : World) : (Instr.alloc t true (.tuple #[])).run P W = .ok (.pointer (some ⟨W.heap.size, 0, none⟩)) (W.alloc (.cells z.cells t)) := by
  simp [Instr.alloc, Sem.run_bind, hz, newVar, newRow]
theorem wl_alloc {W : World} (t : TypeId) (z : Value) (hz : ∀ w, (zeroValue t).run P w = .ok z w) (hgd : o.guard = none) (ho : o.op = .alloc t)
    (h : ∀ g, g = W.heap.size → ∀ w1, w1.heap[g]? = some (.cells z.cells t (0, 0)) → Below W.heap.size W w1 → wpList P ops Q rest (a.put o.dst (.pointer (some ⟨g, 0, none⟩))) w1) : wpList P ops Q (o :: rest) a W := by
  refine Kd.event_run hgd (v := .pointer (some ⟨W.heap.size, 0, none⟩)) (w1 := W.alloc (.cells z.cells t)) ?_ (h _ rfl _ (blk_new W _) (below_alloc (Below.refl _ _) _))
  simp [execOp, ho, run_alloc_any hz]
theorem run_store_any {t u : TypeId} {W : World} {g off : Nat} {cs : List Value} {cur : Array Value} (hi : (P.info? t).map (·.size) = some cs.length) (hg : W.heap[g]? = some (.cells cur u (0, 0))) (hf : off + cs.length ≤ cur.size) (h1 : ∀ v ∈ cs, v.oneCell' = true) :
    (Instr.storeAt t (.pointer (some ⟨g, off, none⟩)) (.agg cs.toArray)).run P W = .ok () (W.setRow g (cur.toList.take off ++ cs ++ cur.toList.drop (off + cs.length)).toArray) := by
  have h := run_storeCells_at (P := P) g off u cs 0 cur W hg (by simpa using hf) h1
  cases hq : P.info? t with
  | none => simp [hq] at hi
  | some i =>
    have hs : i.size = cs.length := by simpa [hq] using hi
    have h' : (storeCells ⟨g, off, none⟩ cs).run P W = _ := h
    simp [Instr.storeAt, Instr.sureAddr, storeVar, sizeOf, typeInfo, hq, Value.cells, hs, Sem.run_bind, h']
theorem setRow_same {W : World} {g : Nat} {cs cur : Array Value} {u : TypeId} (hg : W.heap[g]? = some (.cells cur u (0, 0))) : (W.setRow g cs).heap[g]? = some (.cells cs u (0, 0)) := by
  simp only [World.setRow, Array.getElem?_modify]
  simp only [if_true]; rw [hg]; rfl
theorem setRow_grown (W : World) (g : Nat) (cs : Array Value) : W.grownBy (W.setRow g cs) (some g) :=
  ⟨rfl, rfl, rfl, by simp [World.setRow], fun i _ hi => by simp only [World.setRow, Array.getElem?_modify]; rw [if_neg (fun e => hi (by rw [e]))]⟩
theorem wl_store {W : World} (t : TypeId) (x v : Operand) (ho : o.op = .store t x v) (hgd : o.guard = none) (hd : o.dst = none) (g off : Nat) (cs : List Value) (hx : a.eval x = .pointer (some ⟨g, off, none⟩)) (hv : a.eval v = .agg cs.toArray)
    (cur : Array Value) (u : TypeId) (hi : (P.info? t).map (·.size) = some cs.length) (hg : W.heap[g]? = some (.cells cur u (0, 0))) (hf : off + cs.length ≤ cur.size) (h1 : ∀ v ∈ cs, v.oneCell' = true)
    (h : ∀ w1, w1.heap[g]? = some (.cells (cur.toList.take off ++ cs ++ cur.toList.drop (off + cs.length)).toArray u (0, 0)) → W.grownBy w1 (some g) → wpList P ops Q rest a w1) : wpList P ops Q (o :: rest) a W := by
  refine event_skip hgd hd (w1 := W.setRow g (cur.toList.take off ++ cs ++ cur.toList.drop (off + cs.length)).toArray) ?_ (h _ (setRow_same hg) (setRow_grown W g _))
  simp [execOp, ho, hx, hv, run_store_any hi hg hf h1]
theorem run_load_any {t : TypeId} {W : World} {ad : Addr} {cs : List Value} {d : TypeDesc} (hu : P.underlying t = some d) (hd : (match d with | .struct _ | .array _ _ => true | _ => false) = true) (hi : (P.info? t).map (·.size) = some cs.length)
    (hc : ∀ j v, cs[j]? = some v → W.cell? (ad.add j) = some v) : (Instr.loadAt t (.pointer (some ad))).run P W = .ok (.agg cs.toArray) W := by
  have hl := run_loadCells_list (P := P) W ad cs hc
  cases hq : P.info? t with
  | none => simp [hq] at hi
  | some i =>
    have hs : i.size = cs.length := by simpa [hq] using hi
    have hagg : (isAgg t).run P W = .ok true W := by
      unfold isAgg
      rw [Sem.run_bind, run_underlying hu W]
      cases d <;> simp_all
    simp [Instr.loadAt, Instr.sureAddr, loadVar, Sem.run_bind, hagg, sizeOf, typeInfo, hq, hs, hl]
theorem wl_load {W : World} (t : TypeId) (x : Operand) (ho : o.op = .load t x) (hgd : o.guard = none) (ad : Addr) (cs : List Value) (hx : a.eval x = .pointer (some ad)) (d : TypeDesc) (hu : P.underlying t = some d) (hd : (match d with | .struct _ | .array _ _ => true | _ => false) = true)
    (hi : (P.info? t).map (·.size) = some cs.length) (hc : ∀ j v, cs[j]? = some v → W.cell? (ad.add j) = some v) (h : wpList P ops Q rest (a.put o.dst (.agg cs.toArray)) W) : wpList P ops Q (o :: rest) a W := by
  refine Kd.event_run hgd ?_ h
  simp [execOp, ho, hx, run_load_any hu hd hi hc]
theorem wl_value {W w1 : World} {v : Value} (hgd : o.guard = none) (hrun : (execOp a.eval o).run P W = .ok (.value v) w1) (h : wpList P ops Q rest (a.put o.dst v) w1) : wpList P ops Q (o :: rest) a W := Kd.event_run hgd hrun h
end
/-! ### at this program's types -/
theorem size58 : (Try.prog.info? 106).map (·.size) = some 513 := by kernel_rfl
theorem size56 : (Try.prog.info? 94).map (·.size) = some 512 := by kernel_rfl
theorem info58 : (Try.prog.info? 106).map (fun i => (i.zero, i.size, i.bytes)) = some (some (wrV 0 zeros), 513, 520) := by kernel_rfl
theorem zero58 (w : World) : (zeroValue 106).run Try.prog w = .ok (wrV 0 zeros) w := by kernel_rfl
theorem build58 (a : Int) (w : World) : (Instr.build 106 #[(0, .int .i64 a)]).run Try.prog w = .ok (wrV a zeros) w := by kernel_rfl
theorem fold_set : ∀ (l : List Value) (k : Nat) (acc : Array Value), acc.size = k + l.length → (l.zipIdx k).foldl (fun cs p => cs.setIfInBounds p.2 p.1) acc = (acc.toList.take k ++ l).toArray
  | [], k, acc, h => by
    have : acc.toList.take k = acc.toList := List.take_of_length_le (by simp at h ⊢; omega)
    simp [this]
  | v :: r, k, acc, h => by
    rw [List.zipIdx_cons, List.foldl_cons, fold_set r (k + 1) _ (by simp at h ⊢; omega)]
    congr 1
    apply List.ext_getElem
    · simp at h ⊢; omega
    · intro i h1 h2
      by_cases c : i < k
      · rw [List.getElem_append_left (by simp at h ⊢; omega), List.getElem_append_left (by simp at h ⊢; omega)]
        simp [show k ≠ i by omega]
      · by_cases e : i = k
        · subst e
          rw [List.getElem_append_left (by simp at h ⊢; omega), List.getElem_append_right (by simp; omega)]
          simp at h ⊢
          have e0 : i - min i acc.size = 0 := by omega
          simp [e0]
        · rw [List.getElem_append_right (by simp; omega), List.getElem_append_right (by simp; omega)]
          simp at h ⊢
          have e1 : i - min (k + 1) acc.size = i - (k + 1) := by omega
          have e2 : i - min k acc.size = (i - (k + 1)) + 1 := by omega
          simp only [e1, e2, List.getElem_cons_succ]
theorem fill_one (cs : List Value) (z : Array Value) (n : Nat) (h : cs.length = n) (hz : z.size = n) : Instr.fill (fun i => some (i * n, n)) z [(0, .agg cs.toArray)] = some cs.toArray := by
  have hf := fold_set cs 0 z (by omega)
  have e : (Array.zipIdx cs.toArray).foldl (fun (cs_1 : Array Value) (x : Value × Nat) => cs_1.setIfInBounds (0 * n + x.2) x.1) z = cs.toArray := by
    rw [← Array.foldl_toList]
    simpa using hf
  have hc : ¬ ((decide ((Value.agg cs.toArray).cells.size ≠ n) || decide (0 * n + (Value.agg cs.toArray).cells.size > z.size)) = true) := by
    simp [Value.cells]; omega
  unfold Instr.fill
  show (if _ then none else Instr.fill _ _ []) = _
  rw [if_neg hc]
  unfold Instr.fill
  exact congrArg some e
theorem slice59 (s : List Int) (a : Int) (hs : Sec s) (w : World) : (Instr.buildSlice 86 1 #[(0, wrV a s)]).run Try.prog w = .ok (.slice (some ⟨w.heap.size, 0, none⟩) 1 1) (w.alloc (.cells (wrC a s).toArray 106)) := by
  obtain ⟨ie, hie, hz⟩ := Option.map_eq_some_iff.1 info58
  simp only [Prod.mk.injEq] at hz
  refine run_buildSlice w 86 106 1 _ _ ie (wrV 0 zeros) Try.underlying86 hie hz.1 (by rw [hz.2.1]; decide) (by rw [hz.2.1]; decide) ?_
  rw [hz.2.1]
  exact fill_one (wrC a s) _ 513 (wrC_len hs) (by simp)
end Go.Proofs.Ytmghgghheebnjaa.Dis
