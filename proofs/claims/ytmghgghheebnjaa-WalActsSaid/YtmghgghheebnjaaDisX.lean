/- Disk.Write where it writes, walked by hand. -/
import Derived.Test.YtmghgghheebnjaaDisW
namespace Go.Proofs.Ytmghgghheebnjaa.Dis
open Go.RowKit Go.Proofs.YtmghgghheebnjaaW.PrintWords Go.Proofs.YtmghgghheebnjaaW.PrintLast Go.Proofs.YtmghgghheebnjaaW.PrintMore Go.Maps
set_option linter.unusedVariables false
set_option linter.unusedSimpArgs false
theorem nums_list {b : List Int} {A : Option Addr} {W : World} (h : Kd.C (Kd.int .u8) W A b.length b) : 0 < b.length → ∃ ad, A = some ad ∧ ∀ j v, (nums .u8 b)[j]? = some v → W.cell? (ad.add j) = some v := fun hp => by
  obtain ⟨ad, hA, hc⟩ := h.2.2 hp
  refine ⟨ad, hA, fun j v hv => ?_⟩
  simp only [nums, List.getElem?_map] at hv
  obtain ⟨x, hx, rfl⟩ := Option.map_eq_some_iff.1 hv
  obtain ⟨cs, _, hk, hcell⟩ := hc j x hx
  have hk' : cs = [.int .u8 x] := hk
  have := hcell 0 (.int .u8 x) (by rw [hk']; rfl)
  simpa [Kd.int, Kd.scalar] using this
theorem copy_len (b : List Int) (h : b.length ≤ 512) : (nums .u8 b).length = Nat.min b.length 512 := by
  simp only [nums, List.length_map]; exact (Nat.min_eq_left h).symm
theorem splice_pad (i : Int) (b : List Int) (h : b.length ≤ 512) : splice (wrC i zeros) 1 (nums .u8 b) = wrC i (pad b) := by
  unfold splice wrC pad
  rw [nums_append]
  simp only [List.take_succ_cons, List.take_zero, List.cons_append, List.nil_append, nums, List.length_map]
  congr 2
  rw [show 1 + b.length = b.length + 1 by omega, List.drop_succ_cons, ← List.map_drop]
  congr 1
  unfold zeros
  rw [List.drop_replicate]
theorem wl_build58 {ops : Array Oper} {rest : List Oper} {o : Oper} {a : Act} {Q : Exit → Act → World → Prop} {W : World} (x : Operand) (ho : o.op = .build 106 #[(0, x)]) (hgd : o.guard = none) (i : Int) (hx : a.eval x = .int .i64 i)
    (h : wpList Try.prog ops Q rest (a.put o.dst (wrV i zeros)) W) : wpList Try.prog ops Q (o :: rest) a W := by
  refine Kd.event_run hgd ?_ h
  have := build58 i W
  simp only [execOp, ho, List.map_toArray, List.map_cons, List.map_nil, hx]
  rw [Sem.run_bind, this]
  rfl
theorem exec_load {P : Program} {o : Oper} {a : Act} {W : World} {t : TypeId} {x : Operand} {ad v : Value} (ho : o.op = .load t x) (hx : a.eval x = ad) (hrun : (Instr.loadAt t ad).run P W = .ok v W) : (execOp a.eval o).run P W = .ok (.value v) W := by
  simp [execOp, ho, hx, hrun]
theorem exec_slice {P : Program} {o : Oper} {a : Act} {W W1 : World} {t : TypeId} {n : Nat} {x : Operand} {xv v : Value} (ho : o.op = .buildSlice t n #[(0, x)]) (hx : a.eval x = xv) (hrun : (Instr.buildSlice t n #[(0, xv)]).run P W = .ok v W1) : (execOp a.eval o).run P W = .ok (.value v) W1 := by
  simp [execOp, ho, hx, hrun]
structure Whole (w : World) (g : Nat) (cs : List Value) : Prop where mk :: (out : w.heap[g]? = some (.cells cs.toArray 106 (0, 0)))
theorem Whole.cells {w : World} {g : Nat} {cs : List Value} (h : Whole w g cs) : ∀ j v, cs[j]? = some v → w.cell? ((⟨g, 0, none⟩ : Addr).add j) = some v := fun j v hv => by
  have hadd : (⟨g, 0, none⟩ : Addr).add j = ⟨g, j, none⟩ := by unfold Addr.add; split <;> simp_all
  rw [hadd, blk_cell h.out j]
  simpa using hv
theorem size5 : (Try.prog.info? 5).map (·.size) = some 1 := by kernel_rfl
theorem whole_fit (i : Int) : 0 + (wrC i zeros).length ≤ (wrV 0 zeros).cells.size := by
  rw [wrC_len sec_zeros]
  show _ ≤ (wrC 0 zeros).toArray.size
  rw [List.size_toArray, wrC_len sec_zeros]; omega
theorem wrC_one (i : Int) (s : List Int) : ∀ v ∈ wrC i s, v.oneCell' = true := fun v hv => by
  rcases List.mem_cons.1 hv with rfl | h
  · rfl
  · exact nums_one _ _ h
theorem whole_store {w : World} {g : Nat} {i : Int} (h : w.heap[g]? = some (.cells ((wrV 0 zeros).cells.toList.take 0 ++ wrC i zeros ++ (wrV 0 zeros).cells.toList.drop (0 + (wrC i zeros).length)).toArray 106 (0, 0))) : w.heap[g]? = some (.cells (wrC i zeros).toArray 106 (0, 0)) := by
  rw [h]
  have e : (wrV 0 zeros).cells.toList.drop (0 + (wrC i zeros).length) = [] := List.drop_eq_nil_of_le (by
    rw [wrC_len sec_zeros]
    show (wrC 0 zeros).toArray.toList.length ≤ _
    rw [List.toList_toArray, wrC_len sec_zeros]; omega)
  rw [e]
  simp
theorem copy_fit (i : Int) (b : List Int) (h : b.length ≤ 512) : 1 + (nums .u8 b).length ≤ (wrC i zeros).length := by
  rw [wrC_len sec_zeros]; simp only [nums, List.length_map]; omega
theorem whole_copy {w : World} {g : Nat} {i : Int} {b : List Int} (hb : b.length ≤ 512) (h : Hid (w.heap[g]? = some (.cells (splice (wrC i zeros) 1 (nums .u8 b)).toArray 106 (0, 0)))) : w.heap[g]? = some (.cells (wrC i (pad b)).toArray 106 (0, 0)) := by
  have := h.out
  rwa [splice_pad i b hb] at this
theorem KeepD.row {w w' : World} {row : Option Nat} {base : Nat} {P : Nat → Prop} (hg : w.grownBy w' row) (h : ∀ k, row = some k → P k ∧ base ≤ k ∧ k < w.heap.size ∧ ∃ q, q ∈ 106 :: wrK.E ∧ ∃ cells, w.heap[k]? = some (.cells cells q (0, 0))) : KeepD w w' :=
  ⟨hg.size, fun i cs t fr hi h1 h2 => (hg.block i (blk_lt hi) (fun e => by
    obtain ⟨_, _, _, q, hq, cells, hc⟩ := h i e.symm
    have hq' : q = 106 := by simpa [wrK] using hq
    rw [hc] at hi
    injection hi with hi
    injection hi with _ ht
    exact h1 (ht.symm.trans hq'))).trans hi⟩
theorem map_blk {w : World} {b m : Nat} {f : Int → List Int} (h : MapIs w b m f) : ∃ es c, w.heap[b]? = some (.map es c) := by
  obtain ⟨_, D, _, ⟨es, c, h, _⟩, _⟩ := h
  exact ⟨es, c, h⟩
theorem map_row {w w6 : World} {b m base : Nat} {f : Int → List Int} {v : Value} {l : List (Int × List Int)} (h : MapIs w b m f) (hb : Below w.heap.size w w6) (hR : Kd.R wrK 106 w6 base (fun _ => True) v l) : some b ≠ v.ownBlock := fun e => by
  obtain ⟨es, c, hm⟩ := map_blk h
  obtain ⟨_, _, _, q, hq, cells, hc⟩ := (Kd.R_bound hR).1 b e.symm
  have := blk_below hm hb
  rw [hc] at this
  cases this
theorem map_far {w : World} {b m g : Nat} {f : Int → List Int} {cs : Array Value} {t : TypeId} (h : MapIs w b m f) (hg : w.heap[g]? = some (.cells cs t (0, 0))) (u : Value) (j : Nat) : MapIs (w.setCell ⟨g, j, none⟩ u) b m f := by
  obtain ⟨es, c, hm⟩ := map_blk h
  have hne : b ≠ g := by rintro rfl; rw [hm] at hg; cases hg
  exact h.kept (row := some g) ⟨rfl, rfl, rfl, by simp [World.setCell], fun i _ hi => Below.heap_setCell _ _ _ _ (fun e => hi (by rw [e]))⟩ (fun e => hne (by injection e))
set_option maxHeartbeats 2000000 in
set_option maxRecDepth 100000 in
theorem write_yes (base g : Nat) (d : D) (i : Int) (A : Option Addr) (c : Nat) (b : List Int) (w W : World) (h : IsD base W g d) (hB : Below base w W) (hl : Lies base W A b) (ho : OkB b) (hr : (writeD d i b).2 = 0) (hcnt : d.cnt < 1000000) (hbase : base ≤ w.heap.size) :
    Calls Try.prog 52 #[.pointer (some ⟨g, 0, none⟩), .int .i64 i, .slice A b.length c] W fun e w' => e = .returned (.int .i64 0) ∧ IsD base w' g (writeD d i b).1 ∧ Below base w w' ∧ KeepD W w' := by
  have hk := call_calls base g d W W h (Below.refl base W)
  have ht := fun (w' : World) (h' : IsD base w' g (callD d).1) => there_calls base g (callD d).1 i w' h'
  have hc1 : (callD d).1.cnt = d.cnt := by unfold callD; split <;> rfl
  unfold writeD at hr ⊢
  by_cases c1 : (callD d).2 = 0
  case neg => rw [if_pos c1] at hr; exact absurd hr c1
  by_cases c2 : thereD (callD d).1 i = 0
  case neg => rw [if_neg (by simp [c1]), if_pos c2] at hr; exact absurd hr c2
  by_cases c3 : 512 < b.length
  case pos => rw [if_neg (by simp [c1]), if_neg (by simp [c2]), if_pos c3] at hr; exact absurd hr (fun (h : (2 : Int) = 0) => by cases h)
  rw [if_neg (by simp [c1]), if_neg (by simp [c2]), if_neg c3]
  rw [c1] at hk
  rw [c2] at ht
  obtain ⟨d1, hd1⟩ : ∃ d1, d1 = (callD d).1 := ⟨_, rfl⟩
  rw [← hd1] at hk ht hc1 c2 ⊢
  have hi : 0 ≤ i ∧ i < d1.n := by
    unfold thereD at c2
    by_cases e1 : i < 0
    · rw [if_pos e1] at c2; cases c2
    · rw [if_neg e1] at c2
      by_cases e2 : d1.n ≤ i
      · rw [if_pos e2] at c2; cases c2
      · exact ⟨by omega, by omega⟩
  have hb5 : b.length ≤ 512 := by omega
  have HK := Aside0.mk hk
  have HT := Aside0.mk ht
  have HL := Aside0.mk hl
  have HHI := Aside0.mk hi
  have HC := Aside0.mk hc1
  have HBW := Aside0.mk hB
  have HSW := Aside0.mk (Nat.le_trans hbase hB.size : base ≤ W.heap.size)
  have e3 : ((512 : Int) < b.length) = False := by simp; omega
  clear hk ht hl h hB hr c1 c2 c3 hi hd1 hc1
  go_enter Try.func52, Try.ntmps52
  go_upto_region 8 with (first | (go_at_call 67; with_reducible refine HK.out.mono ?_; rintro e w1 ⟨rfl, hi, hb, hk1⟩; have HI := Aside0.mk hi; have HB := Aside0.mk hb; have HKK := Aside0.mk hk1; clear hi hb hk1) | (go_at_call 68; with_reducible refine (HT.out _ HI.out).mono ?_; rintro e w2 ⟨rfl, rfl⟩))
  obtain ⟨_, bm, v2, m, hg, hgb, hbb, hcm, hM, hR⟩ := HI.out
  have HRest := Aside0.mk (And.intro hbb (And.intro hcm (And.intro hM hgb)))
  have Hg0 := Aside0.mk hg
  have HR0 := Aside0.mk hR
  have hdo := HI.out.1
  have HDO := Aside0.mk hdo
  clear hg hgb hbb hcm hM hR hdo
  have HZ := Aside0.mk (Below.refl w2.heap.size w2)
  have HP := Aside0.mk (pad_sec hb5 ho)
  go_upto_region 10 with (first
    | ((with_reducible refine gate_dst (N := 25) rfl ?_); refine wl_build58 (.tmp 24) rfl rfl i rfl ?_)
    | ((with_reducible refine gate_dst (N := 8) rfl ?_); refine wl_alloc 106 (wrV 0 zeros) zero58 rfl rfl ?_; intro g8 hg8 w3 hb8 hbl; have H8 := Aside0.mk hb8; have HZ1 := Aside0.mk hbl; have HG8 := Aside0.mk (Nat.le_of_eq hg8.symm); clear hb8 hbl hg8 HZ)
    | ((with_reducible refine gate_store (t := 106) (p := 8) rfl ?_); refine wl_store 106 (.tmp 8) (.tmp 25) rfl rfl rfl g8 0 (wrC i zeros) rfl rfl _ 106 (by rw [wrC_len sec_zeros]; exact size58) H8.out ?s1 ?s2 ?_; (case s1 => exact whole_fit _); (case s2 => exact wrC_one _ _); intro w4 hb8 hgr; have H8b := Aside0.mk (whole_store hb8); have HZ2 := Aside0.mk (HZ1.out.grown hgr HZ1.out.size (fun k e => by cases e; exact HG8.out)); clear hb8 hgr H8 HZ1)
    | ((with_reducible refine gate_dst (N := 29) rfl ?_); refine wpList_copy_splice rfl (.tmp 27) (.tmp 28) 56 56 rfl 5 Try.underlying56 size5 (some ⟨g8, 1, none⟩) A 512 512 b.length c rfl rfl g8 1 (wrC i zeros) 106 H8b.out (nums .u8 b) (copy_len b hb5) ?c1 ?c2 (nums_one b) w2.heap.size w2 HZ2.out HG8.out ?_; (case c1 => intro hp; refine ⟨rfl, nums_list (HL.out _ (HKK.out.trans (KeepD.of_below HZ2.out)) (HB.out.trans (HZ2.out.mono (Nat.le_trans HSW.out HB.out.size)))) (by simpa [nums] using hp)⟩); (case c2 => exact copy_fit _ _ hb5); intro w5 h5 hbb5; have H8 := Aside0.mk (whole_copy hb5 h5); have HZ := Aside0.mk hbb5; clear h5 hbb5 H8b HZ2))
  have Hg := Aside0.mk (blk_below Hg0.out HZ.out)
  have HR := Aside0.mk (Kd.R_below HR0.out HZ.out)
  have HI5 := Aside0.mk (HI.out.below HZ.out)
  clear Hg0 HR0 HI
  have HI := HI5
  clear HI5
  have HS2 : Aside0 (w5.cell? ⟨g, 2, none⟩ = some v2) := ⟨(blk_cell Hg.out 2).trans rfl⟩
  refine start_ (n := 11) (S := fun w' => w'.cell? ⟨g, 2, none⟩ = some v2 ∧ Whole w' g8 (wrC i (pad b))) (ds := [7, 10]) #[false, false, false, false, false, false, false, false, false, false, false] (by kernel_rfl) rfl rfl ⟨HS2.out, ⟨H8.out⟩⟩ (fun hHeld => ?_)
  have H8' : Aside0 (w5.drew.heap[g8]? = some (.cells (wrC i (pad b)).toArray 106 (0, 0))) := ⟨H8.out⟩
  have Hg' : Aside0 (w5.drew.heap[g]? = some (.cells #[.int .i64 d1.n, .map (some bm), v2, .int .i64 d1.left, .bool d1.dead] 88 (0, 0))) := ⟨Hg.out⟩
  have HR' : Aside0 (Kd.R wrK 106 w5.drew base (fun _ => True) v2 d1.since) := ⟨Kd.R_drew HR.out⟩
  have HI' : Aside0 (IsD base w5.drew g d1) := ⟨HI.out.below (below_drew (Below.refl _ _))⟩
  have HZ' : Aside0 (Below w2.heap.size w2 w5.drew) := ⟨HZ.out.drew⟩
  clear H8 Hg HR HI HZ HS2
  generalize w5.drew = w6 at H8' Hg' HR' HI' HZ' hHeld ⊢
  refine pure_ (i := 0) (N := some 30) (v := ?_) (a' := ?_) #[true, false, false, false, false, false, false, false, false, false, false] rfl rfl (by kernel_rfl) (fun _ _ _ h => h) (Or.inl ⟨by rfl, ?_⟩) ?_ ?_
  rotate_left
  · intro w'
    go_simp
    with_reducible rfl
  rotate_left
  · simp only [Act.put, List.setIfInBounds_toArray, List.set_cons_zero, List.set_cons_succ]
    rfl
  refine pure_ (i := 1) (N := some 31) (v := ?_) (a' := ?_) #[true, true, false, false, false, false, false, false, false, false, false] rfl rfl (by kernel_rfl) (fun _ _ _ h => h) (Or.inl ⟨by rfl, ?_⟩) ?_ ?_
  rotate_left
  · intro w'
    go_simp
    with_reducible rfl
  rotate_left
  · simp only [Act.put, List.setIfInBounds_toArray, List.set_cons_zero, List.set_cons_succ]
    rfl
  refine pure_ (i := 2) (N := some 32) (v := ?_) (a' := ?_) #[true, true, true, false, false, false, false, false, false, false, false] rfl rfl (by kernel_rfl) (fun _ _ _ h => h) (Or.inl ⟨by rfl, ?_⟩) ?_ ?_
  rotate_left
  · intro w'
    go_simp
    with_reducible rfl
  rotate_left
  · simp only [Act.put, List.setIfInBounds_toArray, List.set_cons_zero, List.set_cons_succ]
    rfl
  refine pure_ (i := 3) (N := some 33) (v := ?_) (a' := ?_) #[true, true, true, true, false, false, false, false, false, false, false] rfl rfl (by kernel_rfl) (fun _ _ _ h => h) (Or.inl ⟨by rfl, ?_⟩) ?_ ?_
  rotate_left
  · intro w'
    go_simp
    with_reducible rfl
  rotate_left
  · simp only [Act.put, List.setIfInBounds_toArray, List.set_cons_zero, List.set_cons_succ]
    rfl
  refine take_ (i := 4) (N := some 34) (v := ?_) (a' := ?_) #[true, true, true, true, true, false, false, false, false, false, false] rfl rfl (by kernel_rfl) (fun _ _ _ h => h) (Or.inl ⟨by rfl, ?_⟩) hHeld ?_ ?_
  rotate_left
  · rintro w' ⟨s0, s1⟩
    go_simp
    with_reducible rfl
  rotate_left
  · simp only [Act.put, List.setIfInBounds_toArray, List.set_cons_zero, List.set_cons_succ]
    rfl
  refine take_ (i := 5) (N := some 35) (v := wrV i (pad b)) (a' := ?_) #[true, true, true, true, true, true, false, false, false, false, false] rfl rfl (by kernel_rfl) (fun _ _ _ h => h) (Or.inl ⟨by rfl, ?_⟩) hHeld ?_ ?_
  · rintro w' ⟨s0, s1⟩
    have e_ := run_load_any (P := Try.prog) (t := 106) (W := w') (ad := ⟨g8, 0, none⟩) (cs := wrC i (pad b)) Try.underlying106 rfl (by rw [wrC_len HP.out]; exact size58) (s1.cells)
    exact exec_load (x := .tmp 8) rfl rfl e_
  rotate_left
  · simp only [Act.put, List.setIfInBounds_toArray, List.set_cons_zero, List.set_cons_succ]
    rfl
  refine one_ (i := 6) (N := some 36) #[true, true, true, true, true, true, true, false, false, false, false] rfl rfl (by kernel_rfl) (by decide) (fun K hK => ?_)
  refine value_ (w1 := w6.alloc (.cells (wrC i (pad b)).toArray 106)) (v := .slice (some ⟨w6.heap.size, 0, none⟩) 1 1) (by rfl) rfl (exec_slice (x := .tmp 35) rfl rfl (slice59 (pad b) i HP.out w6)) ?_
  refine hK.out _ _ ⟨(blk_cell (blk_alloc Hg'.out _) 2).trans rfl, ⟨blk_alloc H8'.out _⟩⟩ (fun hHeld => ?_)
  clear hK K
  refine norm_ (a' := ?_) ?_ ?_
  rotate_left
  · show Act.put _ (some 36) _ = _
    simp only [Act.put, List.setIfInBounds_toArray, List.set_cons_zero, List.set_cons_succ]
    rfl
  refine last_ (i := 7) (N := some 37) #[true, true, true, true, true, true, true, true, false, false, false] rfl rfl (by kernel_rfl) (by decide) (fun K hK => ?_)
  have hsz6 : w2.heap.size ≤ w6.heap.size := HZ'.out.size
  refine Kd.R_append_step wrK (w0 := w2) base (by rfl) (.tmp 34) (.tmp 36) 86 106 (wrV 0 zeros) 520 rfl Try.underlying86 info58 rfl (by decide) (by decide) v2 d1.since (i, pad b) (wrC i (pad b)) (fun _ => True) (fun _ => False) rfl rfl ⟨rfl, HP.out⟩ (fun _ hk => hk.elim) (fun _ _ => trivial) HR'.out (HZ'.out.mono (Nat.le_trans HSW.out HB.out.size)) (Nat.le_trans (Nat.le_trans HSW.out HB.out.size) hsz6) ?aL ?_
  (case aL => have h1 := HRest.out.2.1; have h2 := HC.out; omega)
  intro v7 w7 ho7 hb7 hg7 hat7
  have hne : some g ≠ v2.ownBlock := Kd.R_ne HR'.out Hg'.out (by decide)
  have HK7 := Aside0.mk (KeepD.row hg7 (Kd.R_bound HR'.out).1)
  have Hg7 := Aside0.mk (blk_grown Hg'.out hg7 hne)
  have HR7 := Aside0.mk ho7
  have HB7 := Aside0.mk hb7
  have HM7 := Aside0.mk (HRest.out.2.2.1.kept (grown_of_below HZ'.out none) (by simp) |>.kept hg7 (map_row HRest.out.2.2.1 HZ'.out HR'.out))
  obtain ⟨A7, c7, e7⟩ := Kd.R_slice ho7
  subst e7
  clear ho7 hb7 hg7 hat7 hne
  refine hK.out _ _ ?_
  clear hK K
  refine norm_ (a' := ?_) ?_ ?_
  rotate_left
  · show Act.put _ (some 37) _ = _
    simp only [Act.put, List.setIfInBounds_toArray, List.set_cons_zero, List.set_cons_succ]
    rfl
  refine pure_ (i := 8) (N := some 38) (v := ?_) (a' := ?_) #[true, true, true, true, true, true, true, true, true, false, false] rfl rfl (by kernel_rfl) (fun _ _ _ h => h) (Or.inl ⟨by rfl, ?_⟩) ?_ ?_
  rotate_left
  · intro w'
    go_simp
    with_reducible rfl
  rotate_left
  · simp only [Act.put, List.setIfInBounds_toArray, List.set_cons_zero, List.set_cons_succ]
    rfl
  refine pure_ (i := 9) (N := some 39) (v := ?_) (a' := ?_) #[true, true, true, true, true, true, true, true, true, true, false] rfl rfl (by kernel_rfl) (fun _ _ _ h => h) (Or.inl ⟨by rfl, ?_⟩) ?_ ?_
  rotate_left
  · intro w'
    go_simp
    with_reducible rfl
  rotate_left
  · simp only [Act.put, List.setIfInBounds_toArray, List.set_cons_zero, List.set_cons_succ]
    rfl
  refine last_ (i := 10) (N := none) #[true, true, true, true, true, true, true, true, true, true, true] rfl rfl (by kernel_rfl) (by decide) (fun K hK => ?_)
  have hs7 : w7.cell? ⟨g, 2, none⟩ = some v2 := (blk_cell Hg7.out 2).trans rfl
  have hf7 := blk_frozen Hg7.out 2
  refine skip_ (w1 := ?_) (by rfl) rfl ?_ ?_
  rotate_left
  · go_simp
    rfl
  refine hK.out _ _ ?_
  clear hK K
  refine done_ (by kernel_rfl) ?_
  go_wp2
  go_ret
  have hlen : (d1.since ++ [(i, pad b)]).length = d1.since.length + 1 := by simp
  refine ⟨rfl, ⟨⟨HDO.out.n0, HDO.out.n1, HDO.out.l0, HDO.out.l1, fun x hx => ?_⟩, bm, .slice A7 (d1.since ++ [(i, pad b)]).length c7, m, ?_, HRest.out.2.2.2, HRest.out.1, ?_, ?_, ?_⟩, ?_, ?_⟩
  · rcases List.mem_append.1 hx with h1 | h1
    · exact HDO.out.at_ x h1
    · rw [List.mem_singleton.1 h1]; exact ⟨HHI.out.1, HHI.out.2, HP.out⟩
  · have := blk_set Hg7.out 2 (.slice A7 (d1.since ++ [(i, pad b)]).length c7)
    simpa using this
  · have h1 := HRest.out.2.1; show m + (d1.since ++ [(i, pad b)]).length ≤ d1.cnt + 1; omega
  · exact map_far HM7.out Hg7.out _ _
  · exact Kd.R_mono (Kd.R_far (Kd.R_mono (ok' := fun k => k ≠ g) (Kd.R_types HR7.out Hg7.out (by decide)) (fun k hk => hk.2)) (fun k hk => hk) _) (fun _ _ => trivial)
  · exact (HBW.out.trans HB.out).trans (HB7.out.setCell HRest.out.2.2.2 _)
  · exact (HKK.out.trans (KeepD.of_below HZ'.out)).trans (HK7.out.set Hg7.out _)
end Go.Proofs.Ytmghgghheebnjaa.Dis
