/- Disk.Read, walked by hand (written by mkread.py). -/
import Derived.Test.YtmghgghheebnjaaDisP
import Derived.Test.YtmghgghheebnjaaDisF
namespace Go.Proofs.Ytmghgghheebnjaa.Dis
open Go.RowKit Go.Shelf Go.Proofs.YtmghgghheebnjaaW.PrintWords Go.Proofs.YtmghgghheebnjaaW.PrintLast Go.Proofs.YtmghgghheebnjaaW.PrintMore Go.Maps
set_option linter.unusedVariables false
set_option linter.unusedSimpArgs false
attribute [local go_sem] Oper.semAt_some
/-- What is read of a sector: the last write of it, or what stands fast. -/
def readF (l : List (Int × List Int)) (i : Int) (s0 : List Int) : List Int := match l.reverse.find? (fun x => x.1 == i) with | some x => x.2 | none => s0
def readD (d : D) (i : Int) : D × List Int × Int :=
  if (callD d).2 ≠ 0 then ((callD d).1, [], (callD d).2) else if thereD (callD d).1 i ≠ 0 then ((callD d).1, [], thereD (callD d).1 i)
  else ((callD d).1, readF (callD d).1.since i ((callD d).1.fast i), 0)
def calm (Q : Exit → Act → World → Prop) : Exit → Act → World → Prop
  | .panic _, _, _ => False
  | e, a, w => Q e a w
theorem wp_calm {c : Code} {Q : Exit → Act → World → Prop} {a : Act} {w : World} (h : c.wp Try.prog (calm Q) a w) : c.wp Try.prog Q a w := wp_mono h (fun e a w h => by cases e <;> first | exact h | exact False.elim h)
theorem exec_look {o : Oper} {a : Act} {W : World} {m x : Operand} {b : Nat} {i : Int} {s : List Int} (ho : o.op = .lookup 85 m x false) (hm : a.eval m = .map (some b)) (hx : a.eval x = .int .i64 i)
    (hrun : (Instr.lookup 85 (.map (some b)) (.int .i64 i) false).run Try.prog W = .ok (secV s) W) : (execOp a.eval o).run Try.prog W = .ok (.value (secV s)) W := by
  simp [execOp, ho, hm, hx, hrun]
theorem exec_alloc {o : Oper} {a : Act} {W : World} {t : TypeId} {z : Value} (ho : o.op = .alloc t) (hz : ∀ w, (zeroValue t).run Try.prog w = .ok z w) : (execOp a.eval o).run Try.prog W = .ok (.value (.pointer (some ⟨W.heap.size, 0, none⟩))) (W.alloc (.cells z.cells t)) := by
  simp [execOp, ho, run_alloc_any hz]
theorem exec_store {o : Oper} {a : Act} {W : World} {t u : TypeId} {x v : Operand} {g : Nat} {cs : List Value} {cur : Array Value} (ho : o.op = .store t x v) (hx : a.eval x = .pointer (some ⟨g, 0, none⟩)) (hv : a.eval v = .agg cs.toArray)
    (hi : (Try.prog.info? t).map (·.size) = some cs.length) (hg : W.heap[g]? = some (.cells cur u (0, 0))) (hf : 0 + cs.length ≤ cur.size) (h1 : ∀ v ∈ cs, v.oneCell' = true) :
    (execOp a.eval o).run Try.prog W = .ok .skip (W.setRow g (cur.toList.take 0 ++ cs ++ cur.toList.drop (0 + cs.length)).toArray) := by
  simp [execOp, ho, hx, hv, run_store_any hi hg hf h1]
theorem back_stops (n : Nat) (hn : 1 ≤ n) (Bs c : Nat) (A : Option Addr) (ws : List (Int × List Int)) (hws : ∀ x ∈ ws, Sec x.2) (hlen : ws.length ≤ 1000000) (w : World) (hBs : Bs < w.heap.size) (hc : w.cell? ⟨Bs, 0, none⟩ = some (.slice A ws.length c)) (hC : wrK.C w A ws.length ws) :
    SeqStopsK Fence.wide n Try.prog 75 #[.pointer (some ⟨Bs, 0, none⟩)] wrA (Below w.heap.size) (fun ys => ys = upto (wrs ws hws) ws.length) (fun pre => ∃ k, k ≤ ws.length ∧ pre = upto (wrs ws hws) k) ws.length w := fun l J Jx W hW _ _ hY h0 =>
  back_in n hn l Bs w.heap.size c A ws hws hlen J Jx hY W hBs ((hW.cell (p := ⟨Bs, 0, none⟩) hBs).trans hc) (fun W' hW' => Kd.C_below hC (hW.trans hW')) h0
theorem fold2 (t : Array Value) (x : Wr) : ((#[31, 32] : Array Tmp).zip (wrA x)).foldl (fun t (p, v) => t.setIfInBounds p v) t = (t.setIfInBounds 31 (.int .i64 x.1.1)).setIfInBounds 32 (wrV x.1.2.1 x.1.2.2) := by simp [wrA]
theorem R_put {w : World} {base : Nat} {v : Value} {xs : List Int} {D : Nat} {o o' : Obj} (h : Kd.R (Kd.int .u8) 5 w base (fun _ => True) v xs) (hD : w.heap[D]? = some o) (hc : o.isCells = false) : Kd.R (Kd.int .u8) 5 (w.putObj D o') base (fun _ => True) v xs :=
  Kd.R_mono (Kd.R_grown (Kd.R_bound h) (grownBy_putObj' w D o') (fun k hk e => by
    obtain ⟨_, _, _, q, _, cells, hk2⟩ := hk
    injection e with e
    subst e
    rw [hD] at hk2; cases hk2; cases hc)) (fun _ _ => trivial)
theorem own_blk {X Y : World} {row : Option Nat} {g : Nat} {cs : Array Value} {t : TypeId} {fr : Nat × Nat} (h : X.heap[g]? = some (Obj.cells cs t fr)) (hg : X.grownBy Y row) (hr : ∀ r, row = some r → ∃ o : Obj, X.heap[r]? = some o ∧ o.isCells = false) : Y.heap[g]? = some (Obj.cells cs t fr) :=
  (hg.block g (blk_lt h) (fun e => by
    obtain ⟨o, ho, hc⟩ := hr g e.symm
    rw [h] at ho; cases ho; cases hc)).trans h
theorem upto_wrs (l : List (Int × List Int)) (hl : ∀ x ∈ l, Sec x.2) (k : Nat) (hk : k ≤ l.length) : (upto (wrs l hl) k).map (fun x => x.1.2) = l.reverse.take k := by
  apply List.ext_getElem
  · simp [upto, hk]
  · intro j h1 h2
    have hj : j < k := by simpa [upto] using h1
    rw [List.getElem_map, List.getElem_take, List.getElem_reverse]
    have : (upto (wrs l hl) k)[j]'(by simpa [upto] using hj) = wrs l hl j := by simp [upto]
    rw [this]
    show l.getD (l.length - 1 - j) (0, zeros) = _
    rw [List.getD_eq_getElem?_getD, List.getElem?_eq_getElem (by omega)]
    rfl
theorem readF_none (l : List (Int × List Int)) (hl : ∀ x ∈ l, Sec x.2) (i : Int) (s0 : List Int) (h : ∀ x ∈ upto (wrs l hl) l.length, x.1.2.1 ≠ i) : readF l i s0 = s0 := by
  have e := upto_wrs l hl l.length (Nat.le_refl _)
  rw [List.take_of_length_le (by simp)] at e
  have hn : l.reverse.find? (fun x => x.1 == i) = none := by
    rw [List.find?_eq_none, ← e]
    intro x hx
    obtain ⟨y, hy, rfl⟩ := List.mem_map.1 hx
    simpa using h y hy
  unfold readF
  rw [hn]
theorem readF_some (l : List (Int × List Int)) (hl : ∀ x ∈ l, Sec x.2) (i : Int) (s0 : List Int) (k : Nat) (hk : k ≤ l.length) (ini : List Wr) (x : Wr) (h : upto (wrs l hl) k = ini ++ [x]) (hi : ∀ y ∈ ini, y.1.2.1 ≠ i) (hx : x.1.2.1 = i) : readF l i s0 = x.1.2.2 := by
  have e := upto_wrs l hl k hk
  rw [h, List.map_append] at e
  have hs : l.reverse.find? (fun x => x.1 == i) = some x.1.2 := by
    rw [← List.take_append_drop k l.reverse, ← e, List.append_assoc, List.find?_append]
    have hn : (ini.map (fun x => x.1.2)).find? (fun x => x.1 == i) = none := by
      rw [List.find?_eq_none]
      intro y hy
      obtain ⟨z, hz, rfl⟩ := List.mem_map.1 hy
      simpa using hi z hz
    rw [hn]
    simp [hx]
  unfold readF
  rw [hs]
theorem sec_store2 {w : World} {g : Nat} {s s0 : List Int} (hs : Sec s) (h0 : Sec s0) (h : w.heap[g]? = some (.cells ((secC s0).toArray.toList.take 0 ++ secC s ++ (secC s0).toArray.toList.drop (0 + (secC s).length)).toArray 94 (0, 0))) : w.heap[g]? = some (.cells (secC s).toArray 94 (0, 0)) := by
  rw [h]
  have e : (secC s0).toArray.toList.drop (0 + (secC s).length) = [] := List.drop_eq_nil_of_le (by
    rw [secC_len hs, List.toList_toArray, secC_len h0]; omega)
  rw [e]
  simp
theorem sec_fit2 {s s0 : List Int} (hs : Sec s) (h0 : Sec s0) : 0 + (secC s).length ≤ (secC s0).toArray.size := by
  rw [secC_len hs, List.size_toArray, secC_len h0]; omega
set_option maxHeartbeats 4000000 in
set_option maxRecDepth 100000 in
theorem read_calls (base g : Nat) (d : D) (i : Int) (hi64 : I64 i) (w W : World) (h : IsD base W g d) (hB : Below base w W) (hcnt : d.cnt ≤ 1000000) :
    Calls Try.prog 44 #[.pointer (some ⟨g, 0, none⟩), .int .i64 i] W fun e w' => ∃ v, e = .returned (.tuple #[v, .int .i64 (readD d i).2.2]) ∧ IsD base w' g (readD d i).1 ∧ Below base w w' ∧ KeepD W w' ∧ Kd.R (Kd.int .u8) 5 w' W.heap.size (fun _ => True) v (readD d i).2.1 := by
  have hk := fun (W' : World) (h' : IsD base W' g d) (hB' : Below base w W') => call_calls base g d w W' h' hB'
  have ht := fun (w' : World) (h' : IsD base w' g (callD d).1) => there_calls base g (callD d).1 i w' h'
  have he := call_e d
  have ht2 := there_e (callD d).1 i
  have hbs : base ≤ W.heap.size := Nat.le_of_lt (Nat.lt_of_le_of_lt h.ge h.lt)
  have hcnt1 : (callD d).1.cnt ≤ 1000000 := by
    have : (callD d).1.cnt = d.cnt := by unfold callD; split <;> rfl
    rw [this]; exact hcnt
  unfold readD
  obtain ⟨e1, he1⟩ : ∃ e1, e1 = (callD d).2 := ⟨_, rfl⟩
  obtain ⟨d1, hd1⟩ : ∃ d1, d1 = (callD d).1 := ⟨_, rfl⟩
  rw [← he1] at hk he ⊢
  rw [← hd1] at hk ht ht2 hcnt1 ⊢
  obtain ⟨t1, ht1⟩ : ∃ t1, t1 = thereD d1 i := ⟨_, rfl⟩
  rw [← ht1] at ht ht2 ⊢
  clear he1 hd1 ht1 hcnt
  have HK := Aside0.mk hk
  have HT := Aside0.mk ht
  have HI := Aside0.mk hi64
  have HC := Aside0.mk hcnt1
  have HBS := Aside0.mk hbs
  have HD := Aside0.mk (h.below (below_alloc (Below.refl _ _) (.cells #[.int .i64 i] 3 (0, 0))))
  have HB := Aside0.mk (hB.alloc hbs (.cells #[.int .i64 i] 3 (0, 0)))
  have HP := Aside0.mk (blk_new W (.cells #[.int .i64 i] 3 (0, 0)))
  have HW := Aside0.mk (KeepD.of_below (below_alloc (Below.refl W.heap.size W) (.cells #[.int .i64 i] 3 (0, 0))))
  have HS := Aside0.mk (show W.heap.size < (W.alloc (.cells #[.int .i64 i] 3 (0, 0))).heap.size by simp)
  obtain ⟨gi, hgi⟩ : ∃ gi, gi = W.heap.size := ⟨_, rfl⟩
  clear hk ht h hB hi64 hcnt1 hbs
  by_cases c1 : e1 = 0
  · subst c1
    rw [if_neg (by simp)]
    clear he
    by_cases c2 : t1 = 0
    · subst c2
      rw [if_neg (by simp)]
      clear ht2
      refine callsIn_wide (n := 5).1 (callsIn_of_wp_marks Try.func44 rfl trivial (wpIn_wide.2 ?_) rfl)
      simp only [Try.ntmps44, List.size_toArray, List.length_cons, List.length_nil, Nat.reduceAdd, Nat.reduceSub, Array.replicate_succ, Array.replicate_zero, List.push_toArray, List.append_toArray, List.nil_append, List.cons_append]
      go_upto_region 6 with (first
        | (go_at_call 67; refine (HK.out _ HD.out HB.out).mono ?_; rintro e w2 ⟨rfl, h1, h2, h3⟩; have hpb := h3.2 _ _ _ _ HP.out (by decide) (by decide); have HD2 := Aside0.mk h1; have HB2 := Aside0.mk h2; have HK2 := Aside0.mk (HW.out.trans h3); have HP2 := Aside0.mk hpb; have cp2 : w2.cell? ⟨W.heap.size, 0, none⟩ = some (.int .i64 i) := (blk_cell hpb 0).trans rfl; clear h1 h2 h3 hpb)
        | (go_at_call 68; refine (HT.out _ HD2.out).mono ?_; rintro e w3 ⟨rfl, h9⟩; obtain rfl := h9.symm))
      obtain ⟨hok, bm, v, m, hb, hg, hbb, hcm, hM, hR⟩ := HD2.out
      have HG2 := Aside0.mk hb
      have HM2 := Aside0.mk hM
      have HSI := Aside0.mk (hM.1 i)
      have HR2 := Aside0.mk hR
      have HN2 := Aside0.mk (And.intro hg (And.intro hbb hcm))
      have HOK := Aside0.mk hok
      obtain ⟨A, c, rfl⟩ := Kd.R_slice hR
      have HRC := Aside0.mk (Kd.R_reads hR)
      clear hok hb hg hbb hcm hM hR
      refine wp_calm ?_
      refine start_ (n := 8) (S := fun w' => w'.cell? ⟨g, 1, none⟩ = some (.map (some bm)) ∧ w'.cell? ⟨W.heap.size, 0, none⟩ = some (.int .i64 i) ∧ MapIs w' bm m d1.fast ∧ Below w2.heap.size w2 w') (ds := [7]) #[false, false, false, false, false, false, false, false] (by kernel_rfl) rfl rfl ⟨(blk_cell HG2.out 1).trans rfl, (blk_cell HP2.out 0).trans rfl, HM2.out.kept (row := none) (grown_of_below (below_drew (Below.refl _ _)) none) (by simp), below_drew (Below.refl _ _)⟩ (fun hHeld => ?_)
      refine pure_ (i := 0) (N := some 20) (v := ?_) (a' := ?_) #[true, false, false, false, false, false, false, false] rfl rfl (by kernel_rfl) (fun _ _ _ h => h) (Or.inl ⟨by rfl, ?_⟩) ?_ ?_
      rotate_left
      · intro w'
        go_simp
        with_reducible rfl
      rotate_left
      · simp only [Act.put, List.setIfInBounds_toArray, List.set_cons_zero, List.set_cons_succ]
        rfl
      refine pure_ (i := 1) (N := some 21) (v := ?_) (a' := ?_) #[true, true, false, false, false, false, false, false] rfl rfl (by kernel_rfl) (fun _ _ _ h => h) (Or.inl ⟨by rfl, ?_⟩) ?_ ?_
      rotate_left
      · intro w'
        go_simp
        with_reducible rfl
      rotate_left
      · simp only [Act.put, List.setIfInBounds_toArray, List.set_cons_zero, List.set_cons_succ]
        rfl
      refine pure_ (i := 2) (N := some 22) (v := ?_) (a' := ?_) #[true, true, true, false, false, false, false, false] rfl rfl (by kernel_rfl) (fun _ _ _ h => h) (Or.inl ⟨by rfl, ?_⟩) ?_ ?_
      rotate_left
      · intro w'
        go_simp
        with_reducible rfl
      rotate_left
      · simp only [Act.put, List.setIfInBounds_toArray, List.set_cons_zero, List.set_cons_succ]
        rfl
      refine take_ (i := 3) (N := some 23) (v := ?_) (a' := ?_) #[true, true, true, true, false, false, false, false] rfl rfl (by kernel_rfl) (fun _ _ _ h => h) (Or.inl ⟨by rfl, ?_⟩) hHeld ?_ ?_
      rotate_left
      · rintro w' ⟨s0, s1⟩
        obtain ⟨s1, s2, s3⟩ := s1
        go_simp
        with_reducible rfl
      rotate_left
      · simp only [Act.put, List.setIfInBounds_toArray, List.set_cons_zero, List.set_cons_succ]
        rfl
      refine take_ (i := 4) (N := some 24) (v := ?_) (a' := ?_) #[true, true, true, true, true, false, false, false] rfl rfl (by kernel_rfl) (fun _ _ _ h => h) (Or.inl ⟨by rfl, ?_⟩) hHeld ?_ ?_
      rotate_left
      · rintro w' ⟨s0, s1⟩
        obtain ⟨s1, s2, s3⟩ := s1
        go_simp
        with_reducible rfl
      rotate_left
      · simp only [Act.put, List.setIfInBounds_toArray, List.set_cons_zero, List.set_cons_succ]
        rfl
      refine take_ (i := 5) (N := some 25) (v := secV (d1.fast i)) (a' := ?_) #[true, true, true, true, true, true, false, false] rfl rfl (by kernel_rfl) (fun _ _ _ h => h) (Or.inl ⟨by rfl, ?_⟩) hHeld ?_ ?_
      · rintro w' ⟨s0, s1⟩
        obtain ⟨s1, s2, s3⟩ := s1
        exact exec_look (m := .tmp 23) (x := .tmp 24) rfl rfl rfl (s2.look i HI.out (zero56 w'))
      rotate_left
      · simp only [Act.put, List.setIfInBounds_toArray, List.set_cons_zero, List.set_cons_succ]
        rfl
      refine one_ (i := 6) (N := some 7) #[true, true, true, true, true, true, true, false] rfl rfl (by kernel_rfl) (by decide) (fun K hK => ?_)
      refine value_ (by rfl) rfl (exec_alloc rfl zero56) ?_
      have hs0 : w2.drew.heap.size = w2.heap.size := rfl
      have hb5 : Below w2.heap.size w2 (w2.drew.alloc (.cells (secV zeros).cells 94)) := below_alloc (below_drew (Below.refl _ _)) _
      have hb5' := blk_new w2.drew (.cells (secV zeros).cells 94 (0, 0))
      rw [hs0] at hb5' ⊢
      obtain ⟨w5, hw5⟩ : ∃ w5, w5 = w2.drew.alloc (.cells (secV zeros).cells 94) := ⟨_, rfl⟩
      rw [← hw5] at hb5 hb5' ⊢
      have HB5 := Aside0.mk hb5
      have H5 := Aside0.mk hb5'
      refine hK.out _ _ ⟨(blk_cell (blk_below HG2.out hb5) 1).trans rfl, (blk_cell (blk_below HP2.out hb5) 0).trans rfl, HM2.out.kept (row := none) (grown_of_below hb5 none) (by simp), hb5⟩ (fun hHeld => ?_)
      clear hK K hb5 hb5' hs0 hw5
      refine last_ (i := 7) (N := none) #[true, true, true, true, true, true, true, true] rfl rfl (by kernel_rfl) (by decide) (fun K hK => ?_)
      refine skip_ (w1 := _) (by rfl) rfl (exec_store (x := .tmp 7) (v := .tmp 25) (cs := secC (d1.fast i)) rfl rfl rfl (by rw [secC_len HSI.out]; exact size56) H5.out (sec_fit _ HSI.out) (secC_one _)) ?_
      have h6 := sec_store HSI.out (setRow_same (cs := ((secV zeros).cells.toList.take 0 ++ secC (d1.fast i) ++ (secV zeros).cells.toList.drop (0 + (secC (d1.fast i)).length)).toArray) H5.out)
      have hg6 := setRow_grown w5 w2.heap.size ((secV zeros).cells.toList.take 0 ++ secC (d1.fast i) ++ (secV zeros).cells.toList.drop (0 + (secC (d1.fast i)).length)).toArray
      obtain ⟨w6, hw6⟩ : ∃ w6, w6 = w5.setRow w2.heap.size ((secV zeros).cells.toList.take 0 ++ secC (d1.fast i) ++ (secV zeros).cells.toList.drop (0 + (secC (d1.fast i)).length)).toArray := ⟨_, rfl⟩
      rw [← hw6] at h6 hg6 ⊢
      have H6 := Aside0.mk h6
      have HB6 := Aside0.mk (HB5.out.grown hg6 HB5.out.size (fun k e => by cases e; exact Nat.le_refl _))
      refine hK.out _ _ ?_
      clear hK K hw6 h6 hg6 H5 HB5
      refine done_ (by kernel_rfl) ?_
      simp only [calm, Act.put, List.setIfInBounds_toArray, List.set_cons_zero, List.set_cons_succ]
      have HG6 := Aside0.mk (blk_below HG2.out HB6.out)
      have c26 : w6.cell? ⟨g, 2, none⟩ = some (.slice A d1.since.length c) := (blk_cell HG6.out 2).trans rfl
      have f26 := blk_frozen HG6.out 2
      go_wp2_with (first
        | (go_at_call 69; refine (backward_calls A d1.since.length c _).mono ?_; rintro e w7 ⟨rfl, h9⟩))
      have HB7 := Aside0.mk (below_alloc HB6.out (.cells #[.slice A d1.since.length c] 86))
      have HX7 := Aside0.mk (blk_new w6 (.cells #[.slice A d1.since.length c] 86 (0, 0)))
      have H7 := Aside0.mk (blk_below H6.out (below_alloc (Below.refl _ _) (.cells #[.slice A d1.since.length c] 86)))
      have HZ7 := Aside0.mk (show (w6.alloc (.cells #[.slice A d1.since.length c] 86)).heap.size = w6.heap.size + 1 by simp)
      obtain ⟨w7, hw7⟩ : ∃ w7, w7 = w6.alloc (.cells #[.slice A d1.since.length c] 86) := ⟨_, rfl⟩
      rw [← hw7] at HB7 HX7 H7 HZ7 ⊢
      clear hw7
      have HP7 := Aside0.mk (blk_below HP2.out HB7.out)
      have HWS := Aside0.mk (fun x hx => (HOK.out.at_ x hx).2.2 : ∀ x ∈ d1.since, Sec x.2)
      have HLE := Aside0.mk (show d1.since.length ≤ 1000000 by have := HN2.out.2.2; have := HC.out; omega)
      have HC7 : Aside0 (wrK.C w7 A d1.since.length d1.since) := ⟨by
        obtain ⟨A', c', hv, _, hc⟩ := HRC.out
        injection hv with hv1
        subst hv1
        exact Kd.C_below hc HB7.out⟩
      have HS7 := Aside0.mk (show w2.heap.size < w7.heap.size from blk_lt H7.out)
      refine wpIn_wide.1 (wpIn_rangeFunc_ownH (F := Fence.wide) (n := 5) (α := Wr) rfl (by decide) (gf := 75) (lb := #[.pointer (some ⟨w6.heap.size, 0, none⟩)]) rfl trivial (enters_of Try.func75 (by kernel_rfl) rfl)
        (back_stops 4 (by decide) w6.heap.size c A d1.since HWS.out HLE.out w7 (by rw [HZ7.out]; omega) ((blk_cell HX7.out 0).trans rfl) HC7.out) belowK_t (belowK_b (Nat.le_refl _)) (Below.refl _ _) (fun _ => rfl)
        (fun pre W' => ((w7.heap.size ≤ W'.heap.size ∧ ∀ x ∈ pre, x.1.2.1 ≠ i) ∧ W'.heap[w2.heap.size]? = some (.cells (secC (d1.fast i)).toArray 94 (0, 0)) ∧ W'.heap[W.heap.size]? = some (.cells #[.int .i64 i] 3 (0, 0))) ∧ Below w2.heap.size w2 W')
        (fun cd pre W' => (cd = .exit 0 ∧ ∃ ini x, pre = ini ++ [x] ∧ (∀ y ∈ ini, y.1.2.1 ≠ i) ∧ x.1.2.1 = i ∧ W'.heap[w2.heap.size]? = some (.cells (secC x.1.2.2).toArray 94 (0, 0))) ∧ Below w2.heap.size w2 W')
        (OwnFrom.and (Own.from (fun s X Y row hs hg hr => ⟨⟨Nat.le_trans hs.1.1 hg.size, hs.1.2⟩, own_blk hs.2.1 hg hr, own_blk hs.2.2 hg hr⟩) _) (ownFrom_below (Nat.le_refl _) (Nat.le_of_lt HS7.out)))
        (fun cd => OwnFrom.and (Own.from (fun s X Y row hs hg hr => by obtain ⟨h1, ini, x, h2, h3, h4, h5⟩ := hs; exact ⟨h1, ini, x, h2, h3, h4, own_blk h5 hg hr⟩) _) (ownFrom_below (Nat.le_refl _) (Nat.le_of_lt HS7.out)))
        ⟨⟨⟨Nat.le_refl _, (fun x hx => by cases hx)⟩, H7.out, HP7.out⟩, HB7.out⟩
        (fun x a' W' => ∃ Bx, w7.heap.size ≤ Bx ∧ W'.heap[Bx]? = some (.cells (wrC x.1.2.1 x.1.2.2).toArray 106 (0, 0)) ∧ a' = { tmps := #[.pointer (some ⟨g, 0, none⟩), .int .i64 i, undef, .pointer (some ⟨W.heap.size, 0, none⟩), .slice none 0 0, .int .i64 0, .int .i64 0, .pointer (some ⟨w2.heap.size, 0, none⟩), undef, .pointer (some ⟨Bx, 0, none⟩), .pointer (some ⟨g, 0, none⟩), .int .i64 0, .int .i64 0, .bool true, .pointer (some ⟨g, 0, none⟩), .int .i64 i, .int .i64 0, .int .i64 0, .bool false, undef, .pointer (some ⟨g, 0, none⟩), .pointer (some ⟨g, 0, none⟩), .pointer (some ⟨g, 1, none⟩), .map (some bm), .int .i64 i, secV (d1.fast i), .pointer (some ⟨g, 0, none⟩), .pointer (some ⟨g, 0, none⟩), .pointer (some ⟨g, 2, none⟩), .slice A d1.since.length c, .func (.func 75) #[] #[.pointer (some ⟨w6.heap.size, 0, none⟩)], .int .i64 x.1.1, wrV x.1.2.1 x.1.2.2, undef, undef, undef, undef, undef, undef, undef, undef], defers := [] })
        (fun x a' => Own.from (fun s X Y row hs hg hr => by obtain ⟨Bx, h1, h2, h3⟩ := hs; exact ⟨Bx, h1, own_blk h2 hg hr, h3⟩) _)
        ?assign ?body ?done ?stop)
      case assign =>
        rintro l pre x W' K ⟨⟨⟨hz7, hne⟩, hs7, hp7⟩, hB7⟩ hK
        have HK1 := Aside0.mk hK
        have HSX := Aside0.mk x.2
        have HI1 := Aside0.mk hne
        have HI2 := Aside0.mk hs7
        have HI3 := Aside0.mk hp7
        have HI4 := Aside0.mk hB7
        clear hK hne hs7 hp7 hB7
        simp only [fold2, List.setIfInBounds_toArray, List.set_cons_zero, List.set_cons_succ]
        gi_wp2_with (first
          | ((with_reducible refine gate_dstIn (N := 9) rfl ?_); refine wi_alloc (fun _ => trivial) 106 (wrV 0 zeros) zero58 rfl rfl ?_; intro g9 hg9 w9 hb9 hw9; have H9 := Aside0.mk hb9; have HW9 := Aside0.mk hw9; have HG9 := Aside0.mk hg9; clear hb9 hw9 hg9)
          | ((with_reducible refine gate_storeIn (t := 106) (p := 9) rfl ?_); refine wi_store (fun _ => trivial) 106 (.tmp 9) (.tmp 32) rfl rfl rfl g9 0 (wrC x.1.2.1 x.1.2.2) rfl rfl _ 106 (by rw [wrC_len HSX.out]; exact size58) H9.out (whole_fit2 _ _ HSX.out) (wrC_one _ _) ?_; intro w10 hb10 hgr; have H10 := Aside0.mk (whole_store2 HSX.out hb10); have HGR := Aside0.mk hgr; clear hb10 hgr))
        have k1 : KeepsOthers W' w9 := by rw [HW9.out]; exact KeepsOthers.alloc _ _
        have b1 : Below w7.heap.size W' w9 := by rw [HW9.out]; exact (Below.refl _ W').alloc hz7 _
        have hge9 : w7.heap.size ≤ g9 := by rw [HG9.out]; exact hz7
        have b2 : Below w7.heap.size W' w10 := b1.grown HGR.out (Nat.le_trans hz7 b1.size) (fun q e => by cases e; exact hge9)
        exact HK1.out _ _ ((k1.trans (KeepsOthers.of_grownBy HGR.out (fun j o ej hj => by cases ej; rw [H9.out] at hj; cases hj; rfl))).from _) b2
          ⟨⟨⟨Nat.le_trans hz7 b2.size, HI1.out⟩, (b2.block _ HS7.out).trans HI2.out, (b2.block _ (by have := blk_lt HP2.out; have := HS7.out; omega)).trans HI3.out⟩, HI4.out.trans (b2.mono (Nat.le_of_lt HS7.out))⟩ ⟨g9, hge9, H10.out, rfl⟩
      case body =>
        rintro l pre x a' W' hl hr ⟨⟨⟨hz7, hne⟩, hs7, hp7⟩, hB7⟩ ⟨Bx, hBx, hbX, rfl⟩ hlen
        have HSX := Aside0.mk x.2
        have HI1 := Aside0.mk hne
        have HI2 := Aside0.mk hs7
        have HI3 := Aside0.mk hp7
        have HI4 := Aside0.mk hB7
        have HX := Aside0.mk hbX
        have HSI2 := HSI
        have cX : W'.cell? ⟨Bx, 0, none⟩ = some (.int .i64 x.1.2.1) := (blk_cell hbX 0).trans (by simp [wrC])
        have cP : W'.cell? ⟨W.heap.size, 0, none⟩ = some (.int .i64 i) := (blk_cell hp7 0).trans rfl
        clear hr hne hs7 hp7 hB7 hbX hlen
        by_cases hxi : x.1.2.1 = i
        · have e1 : (x.1.2.1 == i) = true := by simp [hxi]
          gi_wp2_with (first
            | ((with_reducible refine gate_dstIn (N := 38) rfl ?_); refine wi_load (fun _ => trivial) 94 (.tmp 37) rfl rfl ⟨Bx, 1, none⟩ (secC x.1.2.2) rfl _ Try.underlying94 rfl (by rw [secC_len HSX.out]; exact size56) (whole_sec ⟨HX.out⟩) ?_)
            | ((with_reducible refine gate_storeIn (t := 94) (p := 7) rfl ?_); refine wi_store (fun _ => trivial) 94 (.tmp 7) (.tmp 38) rfl rfl rfl w2.heap.size 0 (secC x.1.2.2) rfl rfl _ 94 (by rw [secC_len HSX.out]; exact size56) HI2.out (sec_fit2 HSX.out HSI.out) (secC_one _) ?_; intro w10 hb10 hgr; have H10 := Aside0.mk (sec_store2 HSX.out HSI.out hb10); have HGR := Aside0.mk hgr; clear hb10 hgr))
          exact ⟨KeepsFrom.of_grownBy HGR.out (fun j e => by cases e; exact HS7.out), ⟨rfl, pre, x, rfl, HI1.out, hxi, H10.out⟩, HI4.out.grown HGR.out HI4.out.size (fun q e => by cases e; exact Nat.le_refl _)⟩
        · have e1 : (x.1.2.1 == i) = false := by simp [hxi]
          gi_wp2
          refine ⟨KeepsFrom.refl _ _, Below.refl _ _, ⟨⟨hz7, fun y hy => ?_⟩, HI2.out, HI3.out⟩, HI4.out⟩
          rcases List.mem_append.1 hy with hy | hy
          · exact HI1.out y hy
          · rw [List.mem_singleton.1 hy]; exact hxi
      case done =>
        rintro Dd ys W' hD hys ⟨⟨⟨hz7, hne⟩, hs7, hp7⟩, hB7⟩ hKD
        have HI1 := Aside0.mk hne
        have HI2 := Aside0.mk hs7
        have HI4 := Aside0.mk hB7
        have HKD := Aside0.mk hKD
        have HYS := Aside0.mk hys
        clear hne hs7 hp7 hB7 hKD hys
        go_wp2_with (first
          | (go_at_call 56; refine (clone512 w2.heap.size (d1.fast i) HSI.out _ HI2.out).mono ?_; rintro e w8 ⟨v8, rfl, ho8, hb8⟩; have HO8 := Aside0.mk ho8; have HB8 := Aside0.mk hb8; clear ho8 hb8))
        have hK8 := (HB8.out.block Dd (Array.getElem?_eq_some_iff.1 HKD.out).1).trans HKD.out
        have hb8 : Below w2.heap.size w2 w8 := HI4.out.trans (HB8.out.mono HI4.out.size)
        have hb9 := hb8.trans (belowK_b (w := w2) (Nat.le_refl _) w8 Dd _ (.deferred none) (by have := HS7.out; omega) hK8 rfl rfl)
        refine ⟨by simp, .inl ⟨_, _, rfl, run_takeDeferred hK8, ?_⟩⟩
        refine ⟨_, results_tmp2 rfl _ _ _, _, rfl, HD2.out.below hb9, HB2.out.trans (hb9.mono (Nat.le_of_lt (Nat.lt_of_le_of_lt HD2.out.ge HD2.out.lt))), HK2.out.trans (KeepD.of_below hb9), ?_⟩
        rw [readF_none d1.since HWS.out i _ (by rw [← HYS.out]; exact HI1.out)]
        exact R_put (Kd.R_lower HO8.out (by have := blk_lt HP2.out; have := HI4.out.size; omega)) hK8 rfl
      case stop =>
        rintro Dd cd pre W' hD ⟨k, hk, hpre⟩ ⟨⟨rfl, ini, x, hpx, hini, hx, hs7⟩, hB7⟩ hKD
        have HI1 := Aside0.mk (And.intro hk (And.intro hpre (And.intro hpx (And.intro hini hx))))
        have HI2 := Aside0.mk hs7
        have HI4 := Aside0.mk hB7
        have HKD := Aside0.mk hKD
        clear hk hpre hpx hini hx hs7 hB7 hKD
        refine wpIn_wide.2 ?_
        go_wp2_with (first
          | (go_at_call 56; refine (clone512 w2.heap.size x.1.2.2 x.2 _ HI2.out).mono ?_; rintro e w8 ⟨v8, rfl, ho8, hb8⟩; have HO8 := Aside0.mk ho8; have HB8 := Aside0.mk hb8; clear ho8 hb8))
        have hK8 := (HB8.out.block Dd (Array.getElem?_eq_some_iff.1 HKD.out).1).trans HKD.out
        have hb8 : Below w2.heap.size w2 w8 := HI4.out.trans (HB8.out.mono HI4.out.size)
        have hb9 := hb8.trans (belowK_b (w := w2) (Nat.le_refl _) w8 Dd _ (.deferred none) (by have := HS7.out; omega) hK8 rfl rfl)
        refine ⟨by simp, .inl ⟨_, _, rfl, run_takeDeferred hK8, ?_⟩⟩
        refine ⟨_, results_tmp2 rfl _ _ _, _, rfl, HD2.out.below hb9, HB2.out.trans (hb9.mono (Nat.le_of_lt (Nat.lt_of_le_of_lt HD2.out.ge HD2.out.lt))), HK2.out.trans (KeepD.of_below hb9), ?_⟩
        rw [readF_some d1.since HWS.out i _ k HI1.out.1 ini x (by rw [← HI1.out.2.1]; exact HI1.out.2.2.1) HI1.out.2.2.2.1 HI1.out.2.2.2.2]
        exact R_put (Kd.R_lower HO8.out (by have := blk_lt HP2.out; have := HI4.out.size; omega)) hK8 rfl
    · rw [if_pos c2]
      have e2 : (t1 == 0) = false := by simp [c2]
      have e3 : (t1 != 0) = true := by simp [c2]
      have e4 : (t1 = 0) = False := by simp [c2]
      clear c2 ht2
      go_enter Try.func44, Try.ntmps44
      go_wp2_with (first
        | (go_at_call 67; refine (HK.out _ HD.out HB.out).mono ?_; rintro e w2 ⟨rfl, h1, h2, h3⟩; have hpb := h3.2 _ _ _ _ HP.out (by decide) (by decide); have HD2 := Aside0.mk h1; have HB2 := Aside0.mk h2; have HK2 := Aside0.mk (HW.out.trans h3); have HP2 := Aside0.mk hpb; have cp2 : w2.cell? ⟨W.heap.size, 0, none⟩ = some (.int .i64 i) := (blk_cell hpb 0).trans rfl; clear h1 h2 h3 hpb)
        | (go_at_call 68; refine (HT.out _ HD2.out).mono ?_; rintro e w3 ⟨rfl, h9⟩; obtain rfl := h9.symm))
      go_ret2
      exact ⟨_, rfl, HD2.out, HB2.out, HK2.out, Kd.R_nil _ _ _ _ _⟩
  · rw [if_pos c1]
    have e2 : (e1 == 0) = false := by simp [c1]
    have e3 : (e1 != 0) = true := by simp [c1]
    have e4 : (e1 = 0) = False := by simp [c1]
    clear c1 he ht2
    go_enter Try.func44, Try.ntmps44
    go_wp2_with (first
      | (go_at_call 67; refine (HK.out _ HD.out HB.out).mono ?_; rintro e w2 ⟨rfl, h1, h2, h3⟩; have hpb := h3.2 _ _ _ _ HP.out (by decide) (by decide); have HD2 := Aside0.mk h1; have HB2 := Aside0.mk h2; have HK2 := Aside0.mk (HW.out.trans h3); have HP2 := Aside0.mk hpb; have cp2 : w2.cell? ⟨W.heap.size, 0, none⟩ = some (.int .i64 i) := (blk_cell hpb 0).trans rfl; clear h1 h2 h3 hpb))
    go_ret2
    exact ⟨_, rfl, HD2.out, HB2.out, HK2.out, Kd.R_nil _ _ _ _ _⟩
end Go.Proofs.Ytmghgghheebnjaa.Dis
