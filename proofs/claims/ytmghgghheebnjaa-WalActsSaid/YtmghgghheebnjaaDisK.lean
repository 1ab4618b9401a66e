/- Disk.keeps, at the closure that keeps all and at the one that keeps some: walked by hand (written by mkkeeps.py). -/
import Derived.Test.YtmghgghheebnjaaDisC
namespace Go.Proofs.Ytmghgghheebnjaa.Dis
open Go.RowKit Go.Proofs.YtmghgghheebnjaaW.PrintWords Go.Proofs.YtmghgghheebnjaaW.PrintLast Go.Proofs.YtmghgghheebnjaaW.PrintMore Go.Maps
set_option linter.unusedVariables false
set_option linter.unusedSimpArgs false
def upd (f : Int → List Int) (x : Int × List Int) : Int → List Int := fun j => if j = x.1 then x.2 else f j
/-- What stands fast when k writes have been gone through. -/
def keptTo (F : Nat → Bool) (l : List (Int × List Int)) (f : Int → List Int) : Nat → (Int → List Int)
  | 0 => f
  | k + 1 => if F k = true then upd (keptTo F l f k) (l.getD k (0, zeros)) else keptTo F l f k
def keepsD (d : D) (F : Nat → Bool) : D := { d with fast := keptTo F d.since d.fast d.since.length, since := [] }
theorem row_get {W : World} {base : Nat} {v : Value} {l : List (Int × List Int)} (h : Kd.R wrK 106 W base (fun _ => True) v l) (k : Nat) (hk : k < l.length) :
    ∃ gr c, v = .slice (some ⟨gr, 0, none⟩) l.length c ∧ Sec (l.getD k (0, zeros)).2 ∧ ∀ j u, (wrC (l.getD k (0, zeros)).1 (l.getD k (0, zeros)).2)[j]? = some u → W.cell? ((⟨gr, k * 513, none⟩ : Addr).add j) = some u := by
  obtain ⟨h0, inner, ho, hr⟩ := h
  rcases ho.2 with ⟨_, hn⟩ | ⟨gr, cap, cur, hv, hg, hh, hnc, hcm, hcs, htake⟩
  · omega
  · have hp : l[k]? = some (l.getD k (0, zeros)) := by rw [List.getD_eq_getElem?_getD, List.getElem?_eq_getElem hk]; rfl
    obtain ⟨h1, h2⟩ := hr.2 k _ hp
    refine ⟨gr, cap, hv, h2, fun j u hu => ?_⟩
    have hsz : wrK.sz = 513 := rfl
    rw [hsz] at h1 htake
    rw [← h1] at hu
    have hj : j < 513 := by
      have := (List.getElem?_eq_some_iff.1 hu).1
      rw [h1, wrC_len h2] at this
      exact this
    rw [List.getElem?_take_of_lt hj, List.getElem?_drop] at hu
    have hadd : (⟨gr, k * 513, none⟩ : Addr).add j = ⟨gr, k * 513 + j, none⟩ := by unfold Addr.add; split <;> simp_all
    rw [hadd, blk_cell hh (k * 513 + j), ← Array.getElem?_toList]
    have hlt : k * 513 + j < l.length * 513 := by omega
    rw [← htake, List.getElem?_take_of_lt hlt] at hu
    exact hu
theorem MapIs.more {w : World} {b n n' : Nat} {f : Int → List Int} (h : MapIs w b n f) (hn : n ≤ n') : MapIs w b n' f := by
  obtain ⟨h0, D, hD, h1, h2⟩ := h
  exact ⟨h0, D, hD, h1.mono hn, h2⟩
theorem map_ne {w : World} {b m g : Nat} {f : Int → List Int} {cs : Array Value} {t : TypeId} (h : MapIs w b m f) (hg : w.heap[g]? = some (.cells cs t (0, 0))) : some g ≠ some b := fun e => by
  obtain ⟨es, c, hm⟩ := map_blk h
  injection e with e
  subst e
  rw [hm] at hg; cases hg
theorem row_ne {w : World} {b m base : Nat} {f : Int → List Int} (h : MapIs w b m f) : ∀ k, (True ∧ base ≤ k ∧ k < w.heap.size ∧ ∃ q, q ∈ 106 :: wrK.E ∧ ∃ cells, w.heap[k]? = some (.cells cells q (0, 0))) → k ≠ b := fun k ⟨_, _, _, q, _, cells, hc⟩ e => by
  obtain ⟨es, c, hm⟩ := map_blk h
  subst e
  rw [hm] at hc; cases hc
theorem KeepD.map {w w' : World} {b m : Nat} {f : Int → List Int} (h : MapIs w b m f) (hg : w.grownBy w' (some b)) : KeepD w w' :=
  ⟨hg.size, fun i cs t fr hi _ _ => (hg.block i (blk_lt hi) (fun e => by
    obtain ⟨es, c, hm⟩ := map_blk h
    injection e with e
    subst e
    rw [hm] at hi; cases hi)).trans hi⟩
theorem whole_at {w : World} {g : Nat} {a : Int} {s : List Int} (h : Whole w g (wrC a s)) : w.cell? ⟨g, 0, none⟩ = some (.int .i64 a) := (blk_cell h.out 0).trans (by simp [wrC])
theorem whole_sec {w : World} {g : Nat} {a : Int} {s : List Int} (h : Whole w g (wrC a s)) : ∀ j v, (secC s)[j]? = some v → w.cell? ((⟨g, 1, none⟩ : Addr).add j) = some v := fun j v hv => by
  have hadd : (⟨g, 1, none⟩ : Addr).add j = ⟨g, 1 + j, none⟩ := by unfold Addr.add; split <;> simp_all
  rw [hadd, blk_cell h.out (1 + j)]
  rw [show 1 + j = j + 1 by omega]
  simpa [wrC, secC] using hv
theorem whole_store2 {w : World} {g : Nat} {i : Int} {s : List Int} (hs : Sec s) (h : w.heap[g]? = some (.cells ((wrV 0 zeros).cells.toList.take 0 ++ wrC i s ++ (wrV 0 zeros).cells.toList.drop (0 + (wrC i s).length)).toArray 106 (0, 0))) : w.heap[g]? = some (.cells (wrC i s).toArray 106 (0, 0)) := by
  rw [h]
  have e : (wrV 0 zeros).cells.toList.drop (0 + (wrC i s).length) = [] := List.drop_eq_nil_of_le (by
    rw [wrC_len hs]
    show (wrC 0 zeros).toArray.toList.length ≤ _
    rw [List.toList_toArray, wrC_len sec_zeros]; omega)
  rw [e]
  simp
theorem whole_fit2 (i : Int) (s : List Int) (hs : Sec s) : 0 + (wrC i s).length ≤ (wrV 0 zeros).cells.size := by
  rw [wrC_len hs]
  show _ ≤ (wrC 0 zeros).toArray.size
  rw [List.size_toArray, wrC_len sec_zeros]; omega
theorem exec_put {o : Oper} {a : Act} {W W1 : World} {m x v : Operand} {b : Nat} {i : Int} {s : List Int} (ho : o.op = .mapUpdate 85 m x v) (hm : a.eval m = .map (some b)) (hx : a.eval x = .int .i64 i) (hv : a.eval v = secV s)
    (hrun : (Instr.mapUpdate 85 (.map (some b)) (.int .i64 i) (secV s)).run Try.prog W = .ok () W1) : (execOp a.eval o).run Try.prog W = .ok .skip W1 := by
  simp [execOp, ho, hm, hx, hv, hrun]

set_option maxHeartbeats 4000000 in
set_option maxRecDepth 100000 in
theorem keeps_all (base g : Nat) (d : D) (w W : World) (h : IsD base W g d) (hB : Below base w W) (hbw : base ≤ W.heap.size) (hcnt : d.cnt < 1000000) :
    Calls Try.prog 54 #[.pointer (some ⟨g, 0, none⟩), .func (.func 71) #[] #[]] W fun e w' => e = .returned (.tuple #[]) ∧ IsD base w' g (keepsD d (fun _ => true)) ∧ Below base w w' ∧ KeepD W w' := by
  have HH := Aside0.mk h
  obtain ⟨hok, bm, v, m, hb, hg, hbb, hcm, hM, hR⟩ := h
  obtain ⟨A, c, rfl⟩ := Kd.R_slice hR
  have c2 : W.cell? ⟨g, 2, none⟩ = some (.slice A d.since.length c) := (blk_cell hb 2).trans rfl
  have f2 := blk_frozen hb 2
  have HDO := Aside0.mk hok
  have Hg := Aside0.mk hb
  have HM := Aside0.mk hM
  have HR := Aside0.mk hR
  have HBB := Aside0.mk hB
  have HN := Aside0.mk (And.intro hg (And.intro hbb (And.intro hcm (And.intro hcnt hbw))))
  obtain ⟨n, hn⟩ : ∃ n, n = d.since.length := ⟨_, rfl⟩
  rw [← hn] at c2
  have hn6 : n < 1000000 := by omega
  have HLN := Aside0.mk hn
  clear hok hb hM hR hB hg hbb hcm hcnt hbw hn
  go_enter Try.func54, Try.ntmps54
  go_wp2
  go_loopw [11] (fun x wr => ∃ k : Nat, k ≤ n ∧ x = .int .i64 k ∧ Aside0 (wr.heap[g]? = some (.cells #[.int .i64 d.n, .map (some bm), .slice A d.since.length c, .int .i64 d.left, .bool d.dead] 88 (0, 0))) ∧ Aside0 (MapIs wr bm (m + k) (keptTo (fun _ => true) d.since d.fast k)) ∧ Aside0 (Kd.R wrK 106 wr base (fun _ => True) (.slice A d.since.length c) d.since) ∧ Aside0 (KeepD W wr) ∧ Aside0 (Below base W wr)) (fun x _ => n - (intOf x).toNat)
  case atStart => exact ⟨0, Nat.zero_le _, rfl, Hg, HM, HR, ⟨KeepD.refl W⟩, ⟨Below.refl base W⟩⟩
  case round =>
    obtain ⟨k, hk, rfl, Hgk, HMk, HRk, HKk, HBk⟩ := hrel
    by_cases hlt : k < n
    · have HL := Aside0.mk (row_get HRk.out k (by rw [← HLN.out]; exact hlt))
      obtain ⟨gr, c', hv, hs, hcell⟩ := HL.out
      have hat := HDO.out.at_ (d.since.getD k (0, zeros)) (by rw [List.getD_eq_getElem?_getD, List.getElem?_eq_getElem (by rw [← HLN.out]; exact hlt)]; exact List.getElem_mem _)
      obtain ⟨x, hx⟩ : ∃ x, x = d.since.getD k (0, zeros) := ⟨_, rfl⟩
      rw [← hx] at hs hcell hat
      have HX := Aside0.mk hx
      have HIk := Aside0.mk (⟨by have := HDO.out.n1; omega, by have := HDO.out.n1; omega⟩ : I64 x.1)
      have HSk := Aside0.mk hs
      have HCk := Aside0.mk hcell
      have hv1 : A = some ⟨gr, 0, none⟩ := by injection hv
      subst hv1
      clear hv hs hcell HL hx hat
      have e1 : decide (k < n) = true := decide_eq_true hlt
      have hkk : keptTo (fun _ => true) d.since d.fast (k + 1) = if (fun _ => true) k = true then upd (keptTo (fun _ => true) d.since d.fast k) x else keptTo (fun _ => true) d.since d.fast k := by rw [HX.out]; rfl
      have HKK := Aside0.mk hkk
      clear hkk
      have e2 : decide ((k : Int) < n) = true := decide_eq_true (by omega)
      go_upto_if 18 with (first
        | ((with_reducible refine gate_dst (N := 15) rfl ?_); refine wl_load 106 (.tmp 14) rfl rfl ⟨gr, k * 513, none⟩ (wrC x.1 x.2) ?hx _ Try.underlying106 rfl (by rw [wrC_len HSk.out]; exact size58) HCk.out ?_; (case hx => first | rfl | (simp; done)))
        | ((with_reducible refine gate_dst (N := 5) rfl ?_); refine wl_alloc 106 (wrV 0 zeros) zero58 rfl rfl ?_; intro g5 hg5 w3 hb8 hbl; have H8 := Aside0.mk hb8; have HZ1 := Aside0.mk hbl; have HG5 := Aside0.mk (Nat.le_of_eq hg5.symm); clear hb8 hbl hg5)
        | ((with_reducible refine gate_store (t := 106) (p := 5) rfl ?_); refine wl_store 106 (.tmp 5) (.tmp 15) rfl rfl rfl g5 0 (wrC x.1 x.2) rfl rfl _ 106 (by rw [wrC_len HSk.out]; exact size58) H8.out (whole_fit2 _ _ HSk.out) (wrC_one _ _) ?_; intro w4 hb8 hgr; have H8a := Aside0.mk (whole_store2 HSk.out hb8); have HZ2 := Aside0.mk (HZ1.out.grown hgr HZ1.out.size (fun q e => by cases e; exact HG5.out)); clear hb8 hgr H8 HZ1)
        | (go_at_call 71; refine (all_calls (k : Int) _).mono ?_; rintro e w5 ⟨rfl, hb5⟩; have HZ := Aside0.mk (HZ2.out.trans (hb5.mono HZ2.out.size)); have H8b := Aside0.mk (blk_below H8a.out hb5); clear hb5 H8a HZ2))
      have Hg5 := Aside0.mk (blk_below Hgk.out HZ.out)
      have HM5 := Aside0.mk (HMk.out.kept (grown_of_below HZ.out none) (by simp))
      have HR5 := Aside0.mk (Kd.R_below HRk.out HZ.out)
      have HK5 := Aside0.mk (HKk.out.trans (KeepD.of_below HZ.out))
      have HB5 := Aside0.mk (HBk.out.trans (HZ.out.mono (Nat.le_trans HN.out.2.2.2.2 HBk.out.size)))
      clear HZ
      try go_wp2
      refine start_ (n := 9) (S := fun w' => w'.cell? ⟨g, 1, none⟩ = some (.map (some bm)) ∧ Whole w' g5 (wrC x.1 x.2)) (ds := [8]) #[false, false, false, false, false, false, false, false, false] (by kernel_rfl) rfl rfl ⟨(blk_cell Hg5.out 1).trans rfl, ⟨H8b.out⟩⟩ (fun hHeld => ?_)
      skip
      refine pure_ (i := 0) (N := some 19) (v := ?_) (a' := ?_) #[true, false, false, false, false, false, false, false, false] rfl rfl (by kernel_rfl) (fun _ _ _ h => h) (Or.inl ⟨by rfl, ?_⟩) ?_ ?_
      rotate_left
      · intro w'
        go_simp
        with_reducible rfl
      rotate_left
      · simp only [Act.put, List.setIfInBounds_toArray, List.set_cons_zero, List.set_cons_succ]
        rfl
      refine pure_ (i := 1) (N := some 20) (v := ?_) (a' := ?_) #[true, true, false, false, false, false, false, false, false] rfl rfl (by kernel_rfl) (fun _ _ _ h => h) (Or.inl ⟨by rfl, ?_⟩) ?_ ?_
      rotate_left
      · intro w'
        go_simp
        with_reducible rfl
      rotate_left
      · simp only [Act.put, List.setIfInBounds_toArray, List.set_cons_zero, List.set_cons_succ]
        rfl
      refine pure_ (i := 2) (N := some 21) (v := ?_) (a' := ?_) #[true, true, true, false, false, false, false, false, false] rfl rfl (by kernel_rfl) (fun _ _ _ h => h) (Or.inl ⟨by rfl, ?_⟩) ?_ ?_
      rotate_left
      · intro w'
        go_simp
        with_reducible rfl
      rotate_left
      · simp only [Act.put, List.setIfInBounds_toArray, List.set_cons_zero, List.set_cons_succ]
        rfl
      refine take_ (i := 3) (N := some 22) (v := ?_) (a' := ?_) #[true, true, true, true, false, false, false, false, false] rfl rfl (by kernel_rfl) (fun _ _ _ h => h) (Or.inl ⟨by rfl, ?_⟩) hHeld ?_ ?_
      rotate_left
      · rintro w' ⟨s0, s1⟩
        go_simp
        with_reducible rfl
      rotate_left
      · simp only [Act.put, List.setIfInBounds_toArray, List.set_cons_zero, List.set_cons_succ]
        rfl
      refine pure_ (i := 4) (N := some 23) (v := ?_) (a' := ?_) #[true, true, true, true, true, false, false, false, false] rfl rfl (by kernel_rfl) (fun _ _ _ h => h) (Or.inl ⟨by rfl, ?_⟩) ?_ ?_
      rotate_left
      · intro w'
        go_simp
        with_reducible rfl
      rotate_left
      · simp only [Act.put, List.setIfInBounds_toArray, List.set_cons_zero, List.set_cons_succ]
        rfl
      refine take_ (i := 5) (N := some 24) (v := ?_) (a' := ?_) #[true, true, true, true, true, true, false, false, false] rfl rfl (by kernel_rfl) (fun _ _ _ h => h) (Or.inl ⟨by rfl, ?_⟩) hHeld ?_ ?_
      rotate_left
      · rintro w' ⟨s0, s1⟩
        have hc_ := whole_at s1
        go_simp
        with_reducible rfl
      rotate_left
      · simp only [Act.put, List.setIfInBounds_toArray, List.set_cons_zero, List.set_cons_succ]
        rfl
      refine pure_ (i := 6) (N := some 25) (v := ?_) (a' := ?_) #[true, true, true, true, true, true, true, false, false] rfl rfl (by kernel_rfl) (fun _ _ _ h => h) (Or.inl ⟨by rfl, ?_⟩) ?_ ?_
      rotate_left
      · intro w'
        go_simp
        with_reducible rfl
      rotate_left
      · simp only [Act.put, List.setIfInBounds_toArray, List.set_cons_zero, List.set_cons_succ]
        rfl
      refine take_ (i := 7) (N := some 26) (v := secV x.2) (a' := ?_) #[true, true, true, true, true, true, true, true, false] rfl rfl (by kernel_rfl) (fun _ _ _ h => h) (Or.inl ⟨by rfl, ?_⟩) hHeld ?_ ?_
      · rintro w' ⟨s0, s1⟩
        have e_ := run_load_any (P := Try.prog) (t := 94) (W := w') (ad := ⟨g5, 1, none⟩) (cs := secC x.2) Try.underlying94 rfl (by rw [secC_len HSk.out]; exact size56) (whole_sec s1)
        exact exec_load (x := .tmp 25) rfl rfl e_
      rotate_left
      · simp only [Act.put, List.setIfInBounds_toArray, List.set_cons_zero, List.set_cons_succ]
        rfl
      refine last_ (i := 8) (N := none) #[true, true, true, true, true, true, true, true, true] rfl rfl (by kernel_rfl) (by decide) (fun K hK => ?_)
      obtain ⟨w9, hrun9, hM9, hg9⟩ := (HM5.out.kept (row := none) (grown_of_below (below_drew (Below.refl _ _)) none) (by simp)).put (by have h1 := HN.out.2.2.1; have h2 := HN.out.2.2.2.1; have h3 := HLN.out; unfold maxLen; omega) x.1 HIk.out x.2 HSk.out
      have HM9 := Aside0.mk hM9
      have HG9 := Aside0.mk hg9
      clear hM9 hg9
      refine skip_ (w1 := w9) (by rfl) rfl (exec_put (m := .tmp 22) (x := .tmp 24) (v := .tmp 26) rfl rfl rfl rfl hrun9) ?_
      clear hrun9
      refine hK.out _ _ ?_
      clear hK K
      refine done_ (by kernel_rfl) ?_
      have HMk9 : Aside0 (MapIs w9 bm (m + (k + 1)) (upd (keptTo (fun _ => true) d.since d.fast k) x)) := ⟨HM9.out⟩
      go_wp2
      go_roundw
      case rel => exact ⟨k + 1, by omega, by go_num, ⟨blk_grown (blk_drew Hg5.out) HG9.out (map_ne HM5.out Hg5.out)⟩, ⟨by rw [HKK.out, if_pos trivial]; exact HMk9.out⟩, ⟨Kd.R_mono (Kd.R_grown (Kd.R_mono (ok' := fun k => k ≠ bm) (Kd.R_bound (Kd.R_drew HR5.out)) (row_ne HM5.out)) HG9.out (fun k hk e => hk (by injection e))) (fun _ _ => trivial)⟩, ⟨(HK5.out.trans (KeepD.of_below (below_drew (Below.refl _ _)))).trans (KeepD.map HM5.out HG9.out)⟩, ⟨(HB5.out.drew).grown HG9.out (Nat.le_trans HN.out.2.2.2.2 HB5.out.size) (fun q e => by cases e; exact HN.out.2.1)⟩⟩
      case measure => simp [intOf]; omega
    · have hkn : k = n := by omega
      subst hkn
      have e1 : decide (k < k) = false := by simp
      have e2 : decide ((k : Int) < k) = false := by simp
      have cg := (blk_cell Hgk.out 2)
      have c2k : wr.cell? ⟨g, 2, none⟩ = some (.slice A d.since.length c) := cg.trans rfl
      have f2k := blk_frozen Hgk.out 2
      clear cg
      go_wp2
      go_end0
      refine ⟨rfl, ⟨⟨HDO.out.n0, HDO.out.n1, HDO.out.l0, HDO.out.l1, fun x hx => by cases hx⟩, bm, .slice none 0 0, m + k, ?_, HN.out.1, HN.out.2.1, ?_, ?_, Kd.R_nil _ _ _ _ _⟩, HBB.out.trans (HBk.out.setCell HN.out.1 _), HKk.out.set Hgk.out _⟩
      · exact blk_put Hgk.out 2 _ rfl
      · have h1 := HN.out.2.2.1; have h2 := HLN.out; show m + k + 0 ≤ d.cnt; omega
      · have := map_far HMk.out Hgk.out (.slice none 0 0) 2
        rw [HLN.out] at this ⊢
        exact this

set_option maxHeartbeats 4000000 in
set_option maxRecDepth 100000 in
theorem keeps_some (base g : Nat) (d : D) (w W : World) (h : IsD base W g d) (hB : Below base w W) (hbw : base ≤ W.heap.size) (hcnt : d.cnt < 1000000) (gk : Nat) (Ak : Option Addr) (ck : Nat) (l : List Bool) (hgk : W.heap[gk]? = some (.cells #[.slice Ak l.length ck] 44 (0, 0))) (hgb : base ≤ gk) (hl : ∀ W', KeepD W W' → Below base w W' → Kd.C Kd.bool W' Ak l.length l) :
    Calls Try.prog 54 #[.pointer (some ⟨g, 0, none⟩), .func (.func 55) #[] #[.pointer (some ⟨gk, 0, none⟩)]] W fun e w' => e = .returned (.tuple #[]) ∧ IsD base w' g (keepsD d (kept l)) ∧ Below base w w' ∧ KeepD W w' := by
  have HH := Aside0.mk h
  obtain ⟨hok, bm, v, m, hb, hg, hbb, hcm, hM, hR⟩ := h
  obtain ⟨A, c, rfl⟩ := Kd.R_slice hR
  have c2 : W.cell? ⟨g, 2, none⟩ = some (.slice A d.since.length c) := (blk_cell hb 2).trans rfl
  have f2 := blk_frozen hb 2
  have HDO := Aside0.mk hok
  have Hg := Aside0.mk hb
  have HM := Aside0.mk hM
  have HR := Aside0.mk hR
  have HBB := Aside0.mk hB
  have HN := Aside0.mk (And.intro hg (And.intro hbb (And.intro hcm (And.intro hcnt hbw))))
  obtain ⟨n, hn⟩ : ∃ n, n = d.since.length := ⟨_, rfl⟩
  rw [← hn] at c2
  have hn6 : n < 1000000 := by omega
  have HLN := Aside0.mk hn
  have HGK := Aside0.mk hgk
  have HGB := Aside0.mk hgb
  have HL0 := Aside0.mk hl
  clear hgk hgb hl
  clear hok hb hM hR hB hg hbb hcm hcnt hbw hn
  go_enter Try.func54, Try.ntmps54
  go_wp2
  go_loopw [11] (fun x wr => ∃ k : Nat, k ≤ n ∧ x = .int .i64 k ∧ Aside0 (wr.heap[g]? = some (.cells #[.int .i64 d.n, .map (some bm), .slice A d.since.length c, .int .i64 d.left, .bool d.dead] 88 (0, 0))) ∧ Aside0 (MapIs wr bm (m + k) (keptTo (kept l) d.since d.fast k)) ∧ Aside0 (Kd.R wrK 106 wr base (fun _ => True) (.slice A d.since.length c) d.since) ∧ Aside0 (KeepD W wr) ∧ Aside0 (Below base W wr)) (fun x _ => n - (intOf x).toNat)
  case atStart => exact ⟨0, Nat.zero_le _, rfl, Hg, HM, HR, ⟨KeepD.refl W⟩, ⟨Below.refl base W⟩⟩
  case round =>
    obtain ⟨k, hk, rfl, Hgk, HMk, HRk, HKk, HBk⟩ := hrel
    by_cases hlt : k < n
    · have HL := Aside0.mk (row_get HRk.out k (by rw [← HLN.out]; exact hlt))
      obtain ⟨gr, c', hv, hs, hcell⟩ := HL.out
      have hat := HDO.out.at_ (d.since.getD k (0, zeros)) (by rw [List.getD_eq_getElem?_getD, List.getElem?_eq_getElem (by rw [← HLN.out]; exact hlt)]; exact List.getElem_mem _)
      obtain ⟨x, hx⟩ : ∃ x, x = d.since.getD k (0, zeros) := ⟨_, rfl⟩
      rw [← hx] at hs hcell hat
      have HX := Aside0.mk hx
      have HIk := Aside0.mk (⟨by have := HDO.out.n1; omega, by have := HDO.out.n1; omega⟩ : I64 x.1)
      have HSk := Aside0.mk hs
      have HCk := Aside0.mk hcell
      have hv1 : A = some ⟨gr, 0, none⟩ := by injection hv
      subst hv1
      clear hv hs hcell HL hx hat
      have e1 : decide (k < n) = true := decide_eq_true hlt
      have hkk : keptTo (kept l) d.since d.fast (k + 1) = if (kept l) k = true then upd (keptTo (kept l) d.since d.fast k) x else keptTo (kept l) d.since d.fast k := by rw [HX.out]; rfl
      have HKK := Aside0.mk hkk
      clear hkk
      have e2 : decide ((k : Int) < n) = true := decide_eq_true (by omega)
      go_upto_if 18 with (first
        | ((with_reducible refine gate_dst (N := 15) rfl ?_); refine wl_load 106 (.tmp 14) rfl rfl ⟨gr, k * 513, none⟩ (wrC x.1 x.2) ?hx _ Try.underlying106 rfl (by rw [wrC_len HSk.out]; exact size58) HCk.out ?_; (case hx => first | rfl | (simp; done)))
        | ((with_reducible refine gate_dst (N := 5) rfl ?_); refine wl_alloc 106 (wrV 0 zeros) zero58 rfl rfl ?_; intro g5 hg5 w3 hb8 hbl; have H8 := Aside0.mk hb8; have HZ1 := Aside0.mk hbl; have HG5 := Aside0.mk (Nat.le_of_eq hg5.symm); clear hb8 hbl hg5)
        | ((with_reducible refine gate_store (t := 106) (p := 5) rfl ?_); refine wl_store 106 (.tmp 5) (.tmp 15) rfl rfl rfl g5 0 (wrC x.1 x.2) rfl rfl _ 106 (by rw [wrC_len HSk.out]; exact size58) H8.out (whole_fit2 _ _ HSk.out) (wrC_one _ _) ?_; intro w4 hb8 hgr; have H8a := Aside0.mk (whole_store2 HSk.out hb8); have HZ2 := Aside0.mk (HZ1.out.grown hgr HZ1.out.size (fun q e => by cases e; exact HG5.out)); clear hb8 hgr H8 HZ1)
        | (go_at_call 55; refine (some_calls gk Ak ck l k _ ?hgk_ ?hl_ (by omega)).mono ?_; (case hgk_ => exact blk_below (HKk.out.2 gk _ _ _ HGK.out (by decide) (by decide)) HZ2.out); (case hl_ => exact HL0.out _ (HKk.out.trans (KeepD.of_below HZ2.out)) (HBB.out.trans (HBk.out.trans (HZ2.out.mono (Nat.le_trans HN.out.2.2.2.2 HBk.out.size))))); rintro e w5 ⟨rfl, hb5⟩; have HZ := Aside0.mk (HZ2.out.trans (hb5.mono HZ2.out.size)); have H8b := Aside0.mk (blk_below H8a.out hb5); clear hb5 H8a HZ2))
      have Hg5 := Aside0.mk (blk_below Hgk.out HZ.out)
      have HM5 := Aside0.mk (HMk.out.kept (grown_of_below HZ.out none) (by simp))
      have HR5 := Aside0.mk (Kd.R_below HRk.out HZ.out)
      have HK5 := Aside0.mk (HKk.out.trans (KeepD.of_below HZ.out))
      have HB5 := Aside0.mk (HBk.out.trans (HZ.out.mono (Nat.le_trans HN.out.2.2.2.2 HBk.out.size)))
      clear HZ
      obtain ⟨bk, hbk⟩ : ∃ bk, bk = kept l k := ⟨_, rfl⟩
      rw [← hbk]
      rw [← hbk] at HKK
      clear hbk
      cases bk
      · go_wp2
        go_roundw
        case rel => exact ⟨k + 1, by omega, by go_num, Hg5, ⟨by rw [HKK.out, if_neg (by decide)]; exact HM5.out.more (by omega)⟩, HR5, HK5, HB5⟩
        case measure => simp [intOf]; omega
      · go_wp2
        refine start_ (n := 9) (S := fun w' => w'.cell? ⟨g, 1, none⟩ = some (.map (some bm)) ∧ Whole w' g5 (wrC x.1 x.2)) (ds := [8]) #[false, false, false, false, false, false, false, false, false] (by kernel_rfl) rfl rfl ⟨(blk_cell Hg5.out 1).trans rfl, ⟨H8b.out⟩⟩ (fun hHeld => ?_)
        skip
        refine pure_ (i := 0) (N := some 19) (v := ?_) (a' := ?_) #[true, false, false, false, false, false, false, false, false] rfl rfl (by kernel_rfl) (fun _ _ _ h => h) (Or.inl ⟨by rfl, ?_⟩) ?_ ?_
        rotate_left
        · intro w'
          go_simp
          with_reducible rfl
        rotate_left
        · simp only [Act.put, List.setIfInBounds_toArray, List.set_cons_zero, List.set_cons_succ]
          rfl
        refine pure_ (i := 1) (N := some 20) (v := ?_) (a' := ?_) #[true, true, false, false, false, false, false, false, false] rfl rfl (by kernel_rfl) (fun _ _ _ h => h) (Or.inl ⟨by rfl, ?_⟩) ?_ ?_
        rotate_left
        · intro w'
          go_simp
          with_reducible rfl
        rotate_left
        · simp only [Act.put, List.setIfInBounds_toArray, List.set_cons_zero, List.set_cons_succ]
          rfl
        refine pure_ (i := 2) (N := some 21) (v := ?_) (a' := ?_) #[true, true, true, false, false, false, false, false, false] rfl rfl (by kernel_rfl) (fun _ _ _ h => h) (Or.inl ⟨by rfl, ?_⟩) ?_ ?_
        rotate_left
        · intro w'
          go_simp
          with_reducible rfl
        rotate_left
        · simp only [Act.put, List.setIfInBounds_toArray, List.set_cons_zero, List.set_cons_succ]
          rfl
        refine take_ (i := 3) (N := some 22) (v := ?_) (a' := ?_) #[true, true, true, true, false, false, false, false, false] rfl rfl (by kernel_rfl) (fun _ _ _ h => h) (Or.inl ⟨by rfl, ?_⟩) hHeld ?_ ?_
        rotate_left
        · rintro w' ⟨s0, s1⟩
          go_simp
          with_reducible rfl
        rotate_left
        · simp only [Act.put, List.setIfInBounds_toArray, List.set_cons_zero, List.set_cons_succ]
          rfl
        refine pure_ (i := 4) (N := some 23) (v := ?_) (a' := ?_) #[true, true, true, true, true, false, false, false, false] rfl rfl (by kernel_rfl) (fun _ _ _ h => h) (Or.inl ⟨by rfl, ?_⟩) ?_ ?_
        rotate_left
        · intro w'
          go_simp
          with_reducible rfl
        rotate_left
        · simp only [Act.put, List.setIfInBounds_toArray, List.set_cons_zero, List.set_cons_succ]
          rfl
        refine take_ (i := 5) (N := some 24) (v := ?_) (a' := ?_) #[true, true, true, true, true, true, false, false, false] rfl rfl (by kernel_rfl) (fun _ _ _ h => h) (Or.inl ⟨by rfl, ?_⟩) hHeld ?_ ?_
        rotate_left
        · rintro w' ⟨s0, s1⟩
          have hc_ := whole_at s1
          go_simp
          with_reducible rfl
        rotate_left
        · simp only [Act.put, List.setIfInBounds_toArray, List.set_cons_zero, List.set_cons_succ]
          rfl
        refine pure_ (i := 6) (N := some 25) (v := ?_) (a' := ?_) #[true, true, true, true, true, true, true, false, false] rfl rfl (by kernel_rfl) (fun _ _ _ h => h) (Or.inl ⟨by rfl, ?_⟩) ?_ ?_
        rotate_left
        · intro w'
          go_simp
          with_reducible rfl
        rotate_left
        · simp only [Act.put, List.setIfInBounds_toArray, List.set_cons_zero, List.set_cons_succ]
          rfl
        refine take_ (i := 7) (N := some 26) (v := secV x.2) (a' := ?_) #[true, true, true, true, true, true, true, true, false] rfl rfl (by kernel_rfl) (fun _ _ _ h => h) (Or.inl ⟨by rfl, ?_⟩) hHeld ?_ ?_
        · rintro w' ⟨s0, s1⟩
          have e_ := run_load_any (P := Try.prog) (t := 94) (W := w') (ad := ⟨g5, 1, none⟩) (cs := secC x.2) Try.underlying94 rfl (by rw [secC_len HSk.out]; exact size56) (whole_sec s1)
          exact exec_load (x := .tmp 25) rfl rfl e_
        rotate_left
        · simp only [Act.put, List.setIfInBounds_toArray, List.set_cons_zero, List.set_cons_succ]
          rfl
        refine last_ (i := 8) (N := none) #[true, true, true, true, true, true, true, true, true] rfl rfl (by kernel_rfl) (by decide) (fun K hK => ?_)
        obtain ⟨w9, hrun9, hM9, hg9⟩ := (HM5.out.kept (row := none) (grown_of_below (below_drew (Below.refl _ _)) none) (by simp)).put (by have h1 := HN.out.2.2.1; have h2 := HN.out.2.2.2.1; have h3 := HLN.out; unfold maxLen; omega) x.1 HIk.out x.2 HSk.out
        have HM9 := Aside0.mk hM9
        have HG9 := Aside0.mk hg9
        clear hM9 hg9
        refine skip_ (w1 := w9) (by rfl) rfl (exec_put (m := .tmp 22) (x := .tmp 24) (v := .tmp 26) rfl rfl rfl rfl hrun9) ?_
        clear hrun9
        refine hK.out _ _ ?_
        clear hK K
        refine done_ (by kernel_rfl) ?_
        have HMk9 : Aside0 (MapIs w9 bm (m + (k + 1)) (upd (keptTo (kept l) d.since d.fast k) x)) := ⟨HM9.out⟩
        go_wp2
        go_roundw
        case rel => exact ⟨k + 1, by omega, by go_num, ⟨blk_grown (blk_drew Hg5.out) HG9.out (map_ne HM5.out Hg5.out)⟩, ⟨by rw [HKK.out, if_pos trivial]; exact HMk9.out⟩, ⟨Kd.R_mono (Kd.R_grown (Kd.R_mono (ok' := fun k => k ≠ bm) (Kd.R_bound (Kd.R_drew HR5.out)) (row_ne HM5.out)) HG9.out (fun k hk e => hk (by injection e))) (fun _ _ => trivial)⟩, ⟨(HK5.out.trans (KeepD.of_below (below_drew (Below.refl _ _)))).trans (KeepD.map HM5.out HG9.out)⟩, ⟨(HB5.out.drew).grown HG9.out (Nat.le_trans HN.out.2.2.2.2 HB5.out.size) (fun q e => by cases e; exact HN.out.2.1)⟩⟩
        case measure => simp [intOf]; omega
    · have hkn : k = n := by omega
      subst hkn
      have e1 : decide (k < k) = false := by simp
      have e2 : decide ((k : Int) < k) = false := by simp
      have cg := (blk_cell Hgk.out 2)
      have c2k : wr.cell? ⟨g, 2, none⟩ = some (.slice A d.since.length c) := cg.trans rfl
      have f2k := blk_frozen Hgk.out 2
      clear cg
      go_wp2
      go_end0
      refine ⟨rfl, ⟨⟨HDO.out.n0, HDO.out.n1, HDO.out.l0, HDO.out.l1, fun x hx => by cases hx⟩, bm, .slice none 0 0, m + k, ?_, HN.out.1, HN.out.2.1, ?_, ?_, Kd.R_nil _ _ _ _ _⟩, HBB.out.trans (HBk.out.setCell HN.out.1 _), HKk.out.set Hgk.out _⟩
      · exact blk_put Hgk.out 2 _ rfl
      · have h1 := HN.out.2.2.1; have h2 := HLN.out; show m + k + 0 ≤ d.cnt; omega
      · have := map_far HMk.out Hgk.out (.slice none 0 0) 2
        rw [HLN.out] at this ⊢
        exact this
end Go.Proofs.Ytmghgghheebnjaa.Dis
