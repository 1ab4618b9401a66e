/- Streams: Files, walked by hand (written by mkfiles.py). -/
import Derived.Test.YtlccmkfkemilbaaStG
namespace Go.Proofs.Ytlccmkfkemilbaa.Bld
open Go.RowKit Go.Lib Go.Proofs.YtlccmkfkemilbaaW.PrintWords Go.Proofs.YtlccmkfkemilbaaW.PrintLast Go.Proofs.YtlccmkfkemilbaaW.PrintMore
set_option linter.unusedVariables false
set_option linter.unusedSimpArgs false
abbrev tt : Nat → Prop := fun _ => True
def fileK : Kd (ByteArray × ByteArray) := Kd.pair Kd.string Kd.string
def filesS (s : Str) : List (ByteArray × ByteArray) := s.sk.map fun u => (u.1, ⟨u.2.toArray⟩)
theorem C_ofR {α : Type} {d : Kd α} {e : Nat} {w : World} {base : Nat} {ok : Nat → Prop} {A : Option Addr} {n c : Nat} {xs : List α} (h : d.R e w base ok (.slice A n c) xs) : d.C w A n xs := by
  obtain ⟨A', c', he, _, hC⟩ := Kd.R_reads h
  injection he with h1 h2 h3
  subst h1
  rw [h2]
  exact hC
theorem file_keepT {W W' : World} {b0 : Nat} {v : Value} {xs : List (ByteArray × ByteArray)} (h : fileK.R 38 W b0 tt v xs) (hk : KeepT W W') : fileK.R 38 W' b0 tt v xs :=
  Kd.R_mono (Kd.R_step (Kd.R_bound h) (fun k ho hlt => by
    obtain ⟨_, _, _, q, hq, cells, hc⟩ := ho
    have hq' : q = 38 := by simpa [fileK, Kd.pair, Kd.string, Kd.scalar] using hq
    subst hq'
    rw [hc]
    exact hk.2 k _ _ _ hc (by decide) (by decide) (by decide) (by decide))) (fun _ _ => trivial)
theorem reps_file (w : World) (base : Nat) (a b : ByteArray) : Reps (fileK.M w base tt) fileK.sz [(a, b)] [Value.string a, Value.string b] := ⟨rfl, fun j p hj => by
  have hj0 : j = 0 := by
    have := (List.getElem?_eq_some_iff.1 hj).1
    simp at this; exact this
  subst hj0
  have : p = (a, b) := by simpa using hj.symm
  subst this
  exact ⟨[Value.string a], [Value.string b], rfl, rfl, rfl⟩⟩
theorem StAt.read {base g : Nat} {w w' : World} {s : Str} {vo vs : Value} {cs : Array Value} {ks : List Sk} (h : StAt base w g s vo vs cs ks) {i : Nat} {k : Sk} {t : ByteArray × List UInt8} (hk : ks[i]? = some k) (ht : s.sk[i]? = some t) (hB : BldAt base w' k.1 0 49 k.2.1 k.2.2 t.2)
    (hf : ∀ x, some x ≠ k.2.2.ownBlock → w'.heap[x]? = w.heap[x]?) : StAt base w' g s vo vs cs ks := by
  have h1 := h.wrote hk ht hB rfl (.inl rfl) (fun x _ _ hx => hf x hx)
  have e1 : s.sk.set i (t.1, t.2) = s.sk := by
    apply List.ext_getElem?
    intro j
    rw [List.getElem?_set]
    by_cases hj : i = j
    · subst hj; rw [if_pos rfl, if_pos (List.getElem?_eq_some_iff.1 ht).1, ht]
    · rw [if_neg hj]
  have e2 : ks.set i (k.1, k.2.1, k.2.2) = ks := by
    apply List.ext_getElem?
    intro j
    rw [List.getElem?_set]
    by_cases hj : i = j
    · subst hj; rw [if_pos rfl, if_pos (List.getElem?_eq_some_iff.1 hk).1, hk]
    · rw [if_neg hj]
  rw [e1, e2] at h1
  exact h1
theorem cap_ok {α : Type} (l : List α) (x : α) {k n : Nat} (h : k ≤ n) (h8 : n ≤ 8) : ((l.take k).length + [x].length) * 32 ≤ 140737488355328 := by
  have h9 := List.length_take_le k l
  simp only [List.length_singleton]
  omega
theorem StAt.kept2 {base g : Nat} {w w' : World} {s : Str} {vo vs : Value} {cs : Array Value} {ks : List Sk} (h : StAt base w g s vo vs cs ks) (hk : ∀ (k : Nat) (c : Array Value) (T : TypeId) (fz : Nat × Nat), T ≠ 38 → w.heap[k]? = some (Obj.cells c T fz) → w'.heap[k]? = w.heap[k]?) : StAt base w' g s vo vs cs ks :=
  { h with
    out := h.out.kept (hk _ _ 52 _ (by decide) h.out.blk) (fun x hx => by obtain ⟨_, _, hb⟩ := h.out.own_blk x hx; exact hk x _ 5 _ (by decide) hb)
    row := row_same h.row (fun x hx => by obtain ⟨_, hb⟩ := row_blk h.row x hx; exact hk x _ 54 _ (by decide) hb)
    each := fun i k t h1 h2 => by
      obtain ⟨hb, hr⟩ := h.each i k t h1 h2
      exact ⟨hb.kept (hk _ _ 49 _ (by decide) hb.blk) (fun x hx => by obtain ⟨_, _, hb⟩ := hb.own_blk x hx; exact hk x _ 5 _ (by decide) hb), hr⟩ }
theorem KeepT.then_below {W a b : World} (h : KeepT W a) (hb : Below W.heap.size a b) : KeepT W b := ⟨Nat.le_trans h.1 hb.size, fun i cs t fr hi h1 h2 h3 h4 => (hb.block i (lt_of_blk hi)).trans (h.2 i cs t fr hi h1 h2 h3 h4)⟩
theorem take_next {s : Str} {k : Nat} {t : ByteArray × List UInt8} (ht : s.sk[k]? = some t) : (filesS s).take k ++ [(t.1, (⟨t.2.toArray⟩ : ByteArray))] = (filesS s).take (k + 1) := by
  unfold filesS
  rw [List.take_add_one]
  simp [ht]
theorem take_len {s : Str} {k : Nat} {t : ByteArray × List UInt8} (ht : s.sk[k]? = some t) : ((filesS s).take (k + 1)).length = k + 1 := by
  have := (List.getElem?_eq_some_iff.1 ht).1
  unfold filesS
  rw [List.length_take, List.length_map]
  omega
set_option maxHeartbeats 4000000 in
set_option maxRecDepth 100000 in
theorem files_calls (base g : Nat) (s : Str) (w W : World) (h : IsSt base W g s) (hB : Below base w W) (h8 : s.sk.length ≤ 8) (hlen : ∀ u ∈ s.sk, u.2.length ≤ 65536) :
    Calls Try.prog 7 #[.pointer (some ⟨g, 0, none⟩)] W fun e w' => ∃ v, e = .returned v ∧ fileK.R 38 w' W.heap.size tt v (filesS s) ∧ IsSt base w' g s ∧ Below base w w' ∧ KeepT W w' := by
  have info38 : (Try.prog.info? 38).map (fun i => (i.zero, i.size, i.bytes)) = some (some (.agg #[.string ⟨#[]⟩, .string ⟨#[]⟩]), 2, 32) := by kernel_rfl
  have INF := Aside0.mk info38
  have hbase : base ≤ W.heap.size := Nat.le_of_lt (Nat.lt_of_le_of_lt h.ge h.lt)
  have HBS := Aside0.mk hbase
  obtain ⟨vo, vs, cs, ks, h⟩ := h
  obtain ⟨A, c, hvs⟩ := h.vs_form
  subst hvs
  have hn0 := h.len
  obtain ⟨n, hn⟩ : ∃ n, n = ks.length := ⟨_, rfl⟩
  have c5 : W.cell? ⟨g, 5, none⟩ = some (.slice A n c) := (blk_cellB h.out.blk 5).trans (by rw [hn]; exact h.sinks)
  rw [← hn] at hn0
  have hn8 : n ≤ 8 := by omega
  have HN := Aside0.mk (And.intro hn (And.intro hn0 hn8))
  have HS := Aside0.mk h
  have HB := Aside0.mk hB
  have HLN := Aside0.mk hlen
  clear h hB hn hn0 h8 hlen info38 hbase
  go_enter Try.func7, Try.ntmps7
  go_wp2_with fail
  go_loopw [3, 11] (fun y x wr => ∃ (k : Nat) (A' : Option Addr) (c' : Nat), k ≤ n ∧ x = .int .i64 k ∧ y = .slice A' k c' ∧ Aside0 (fileK.R 38 wr W.heap.size tt (.slice A' k c') ((filesS s).take k)) ∧ Aside0 (StAt base wr g s vo (.slice A ks.length c) cs ks) ∧ Aside0 (Below base w wr) ∧ Aside0 (KeepT W wr)) (fun _ x _ => n - (intOf x).toNat)
  case atStart => exact ⟨0, none, 0, Nat.zero_le _, rfl, rfl, ⟨Kd.R_nil _ _ _ _ _⟩, HS, HB, ⟨KeepT.refl _⟩⟩
  case round =>
    obtain ⟨k, A', c', hk, rfl, rfl, HRk, HSk, HBk, HKk⟩ := hrel
    by_cases hlt : k < n
    · have e1 : decide ((k : Int) < n) = true := decide_eq_true (by omega)
      have e2 : decide (k < n) = true := decide_eq_true hlt
      have hk3 : k < ks.length := by rw [← HN.out.1]; exact hlt
      obtain ⟨gv, c3, hvs3, hcel⟩ := HSk.out.at k hk3
      have hA : A = some ⟨gv, 0, none⟩ := by injection hvs3
      subst hA
      obtain ⟨q, hq⟩ : ∃ q, q = ks[k] := ⟨_, rfl⟩
      have hqq : ks[k]? = some q := by rw [hq]; exact List.getElem?_eq_getElem hk3
      rw [← hq] at hcel
      obtain ⟨t, ht, hbt, hbg, hnm⟩ := HSk.out.sink hqq
      obtain ⟨sb, hsb⟩ : ∃ sb, sb = q.1 := ⟨_, rfl⟩
      rw [← hsb] at hcel
      have hstr := str_calls base q.1 0 49 q.2.1 q.2.2 t.2 wr.drew (hbt.kept (w' := wr.drew) rfl (fun _ _ => rfl)) (by have := HLN.out t (List.mem_of_getElem? ht); omega)
      rw [← hsb] at hstr
      obtain ⟨nm, hnme⟩ : ∃ nm, nm = t.1 := ⟨_, rfl⟩
      obtain ⟨tx, htx⟩ : ∃ tx : ByteArray, tx = ⟨t.2.toArray⟩ := ⟨_, rfl⟩
      rw [← htx] at hstr
      have c2 : wr.cell? ⟨sb, 2, none⟩ = some (.string nm) := by rw [hsb, hnme]; exact (blk_cellB hbt.blk 2).trans hnm
      have HBT := Aside0.mk hbt
      have HQ := Aside0.mk (And.intro hqq (And.intro ht (And.intro hsb (And.intro hnme htx))))
      have HC2 := Aside0.mk c2
      have HSTR := Aside0.mk hstr
      have HBG := Aside0.mk hbg
      clear hk3 hvs3 hq hqq ht hbt hbg hnm hsb hstr hnme htx c2
      go_upto_region 5 with fail
      refine start_ (n := 13) (S := fun w' => w'.cell? ⟨sb, 2, none⟩ = some (.string nm)) (ds := []) #[false, false, false, false, false, false, false, false, false, false, false, false, false] (by kernel_rfl) rfl rfl HC2.out (fun hHeld => ?_)
      refine pure_ (i := 0) (N := some 15) (v := ?_) (a' := ?_) #[true, false, false, false, false, false, false, false, false, false, false, false, false] rfl rfl (by kernel_rfl) (fun _ _ _ h => h) (Or.inl ⟨by rfl, ?_⟩) ?_ ?_
      rotate_left
      · intro w'
        go_simp
        with_reducible rfl
      rotate_left
      · simp only [Act.put, List.setIfInBounds_toArray, List.set_cons_zero, List.set_cons_succ]
        rfl
      refine pure_ (i := 1) (N := some 16) (v := ?_) (a' := ?_) #[true, true, false, false, false, false, false, false, false, false, false, false, false] rfl rfl (by kernel_rfl) (fun _ _ _ h => h) (Or.inl ⟨by rfl, ?_⟩) ?_ ?_
      rotate_left
      · intro w'
        go_simp
        with_reducible rfl
      rotate_left
      · simp only [Act.put, List.setIfInBounds_toArray, List.set_cons_zero, List.set_cons_succ]
        rfl
      refine pure_ (i := 2) (N := some 17) (v := ?_) (a' := ?_) #[true, true, true, false, false, false, false, false, false, false, false, false, false] rfl rfl (by kernel_rfl) (fun _ _ _ h => h) (Or.inl ⟨by rfl, ?_⟩) ?_ ?_
      rotate_left
      · intro w'
        go_simp
        with_reducible rfl
      rotate_left
      · simp only [Act.put, List.setIfInBounds_toArray, List.set_cons_zero, List.set_cons_succ]
        rfl
      refine pure_ (i := 3) (N := some 18) (v := ?_) (a' := ?_) #[true, true, true, true, false, false, false, false, false, false, false, false, false] rfl rfl (by kernel_rfl) (fun _ _ _ h => h) (Or.inl ⟨by rfl, ?_⟩) ?_ ?_
      rotate_left
      · intro w'
        go_simp
        with_reducible rfl
      rotate_left
      · simp only [Act.put, List.setIfInBounds_toArray, List.set_cons_zero, List.set_cons_succ]
        rfl
      refine take_ (i := 4) (N := some 19) (v := .string nm) (a' := ?_) #[true, true, true, true, true, false, false, false, false, false, false, false, false] rfl rfl (by kernel_rfl) (fun _ _ _ h => h) (Or.inl ⟨by rfl, ?_⟩) hHeld ?_ ?_
      · intro w' s0
        go_simp
        try with_reducible rfl
      rotate_left
      · simp only [Act.put, List.setIfInBounds_toArray, List.set_cons_zero, List.set_cons_succ]
        rfl
      refine pure_ (i := 5) (N := some 20) (v := ?_) (a' := ?_) #[true, true, true, true, true, true, false, false, false, false, false, false, false] rfl rfl (by kernel_rfl) (fun _ _ _ h => h) (Or.inl ⟨by rfl, ?_⟩) ?_ ?_
      rotate_left
      · intro w'
        go_simp
        with_reducible rfl
      rotate_left
      · simp only [Act.put, List.setIfInBounds_toArray, List.set_cons_zero, List.set_cons_succ]
        rfl
      refine pure_ (i := 6) (N := some 21) (v := ?_) (a' := ?_) #[true, true, true, true, true, true, true, false, false, false, false, false, false] rfl rfl (by kernel_rfl) (fun _ _ _ h => h) (Or.inl ⟨by rfl, ?_⟩) ?_ ?_
      rotate_left
      · intro w'
        go_simp
        with_reducible rfl
      rotate_left
      · simp only [Act.put, List.setIfInBounds_toArray, List.set_cons_zero, List.set_cons_succ]
        rfl
      refine pure_ (i := 7) (N := some 22) (v := ?_) (a' := ?_) #[true, true, true, true, true, true, true, true, false, false, false, false, false] rfl rfl (by kernel_rfl) (fun _ _ _ h => h) (Or.inl ⟨by rfl, ?_⟩) ?_ ?_
      rotate_left
      · intro w'
        go_simp
        with_reducible rfl
      rotate_left
      · simp only [Act.put, List.setIfInBounds_toArray, List.set_cons_zero, List.set_cons_succ]
        rfl
      refine one_ (i := 8) (N := some 23) #[true, true, true, true, true, true, true, true, true, false, false, false, false] rfl rfl (by kernel_rfl) (by decide) (fun K hK => ?_)
      refine goes_ Try.func14 (by kernel_rfl) rfl #[.pointer (some ⟨sb, 0, none⟩)] (by rfl) rfl rfl (by (try simp only [List.map_toArray, List.map_cons, List.map_nil]); first | done | rfl) ?_
      refine HSTR.out.mono ?_
      rintro e w6 ⟨rfl, p1, p2, p3, p4, p5, p6⟩
      refine ⟨_, rfl, ?_⟩
      have p3' : ∀ x, some x ≠ q.2.2.ownBlock → w6.heap[x]? = wr.heap[x]? := p3
      have HS6 := Aside0.mk (HSk.out.read HQ.out.1 HQ.out.2.1 (by rw [← HQ.out.2.2.1]; exact p1) p3')
      have HK6 := Aside0.mk (KeepT.two (w := wr) (Nat.le_of_eq p2.symm) HBT.out.blk (.inr rfl) HBT.out.own_blk (fun x _ _ hx => p3' x hx))
      have HB6 := Aside0.mk (below_two HBk.out (Nat.le_of_eq p2.symm) (Nat.le_trans HBS.out HKk.out.1) HBG.out HBT.out.own_ge (fun x _ _ hx => p3' x hx) p4 p5 p6)
      have HC6 := Aside0.mk (show w6.cell? ⟨sb, 2, none⟩ = some (.string nm) by rw [← HC2.out]; simp only [World.cell?]; rw [p3' sb (fun e => by rw [HQ.out.2.2.1] at e; exact HBT.out.ne e.symm)])
      have HR6 := Aside0.mk (file_keepT HRk.out HK6.out)
      have HZ6 := Aside0.mk (show base ≤ w6.heap.size from Nat.le_trans (Nat.le_trans HBS.out HKk.out.1) HK6.out.1)
      clear p1 p2 p3 p3' p4 p5 p6
      refine hK.out _ _ HC6.out (fun hHeld => ?_)
      clear hK K
      refine pure_ (i := 9) (N := some 24) (v := ?_) (a' := ?_) #[true, true, true, true, true, true, true, true, true, true, false, false, false] rfl rfl (by kernel_rfl) (fun _ _ _ h => h) (Or.inl ⟨by rfl, ?_⟩) ?_ ?_
      rotate_left
      · intro w'
        go_simp
        with_reducible rfl
      rotate_left
      · simp only [Act.put, List.setIfInBounds_toArray, List.set_cons_zero, List.set_cons_succ]
        rfl
      refine one_ (i := 10) (N := some 25) #[true, true, true, true, true, true, true, true, true, true, true, false, false] rfl rfl (by kernel_rfl) (by decide) (fun K hK => ?_)
      refine Kd.R_lit_step fileK (w0 := w6) W.heap.size 38 (by rfl) (N := 25) rfl (xs := [(nm, tx)]) (inner := [Value.string nm, Value.string tx]) (ok := tt) (okp := tt) ?hr ?hrep (fun _ h => h) trivial (Below.refl _ _) (Nat.le_trans HKk.out.1 HK6.out.1) (by simp) ?_
      case hr => first | (go_simp; done) | (go_simp; rfl)
      case hrep => exact reps_file _ _ _ _
      intro vM w8 ho hb hg _
      have bl : Below w6.heap.size w6 w8 := ⟨hg.os, hg.tape, hg.output, hg.size, fun k hk => hg.block k hk (by simp)⟩
      obtain ⟨AM, cM, rfl⟩ := Kd.R_slice ho
      have HM := Aside0.mk ho
      have HB8 := Aside0.mk (HB6.out.trans (bl.mono HZ6.out))
      have HK8 := Aside0.mk (HKk.out.trans (HK6.out.trans (KeepT.of_below bl)))
      have HS8 := Aside0.mk (HS6.out.kept (fun k hk => bl.block k hk))
      have HR8 := Aside0.mk (file_keepT HR6.out (KeepT.of_below bl))
      have HC8 := Aside0.mk (show w8.cell? ⟨sb, 2, none⟩ = some (.string nm) by rw [← HC6.out]; simp only [World.cell?]; rw [bl.block sb (by have h1 := HBT.out.blk; have h2 := lt_of_blk h1; have h3 := HK6.out.1; rw [HQ.out.2.2.1]; omega)])
      have HZ8 := Aside0.mk (Nat.le_trans HZ6.out bl.size)
      clear bl ho hb hg
      show K (Act.put _ (some 25) _) _
      simp only [Act.put, List.setIfInBounds_toArray, List.set_cons_zero, List.set_cons_succ]
      refine hK.out _ _ HC8.out (fun hHeld => ?_)
      clear hK K
      refine one_ (i := 11) (N := some 26) #[true, true, true, true, true, true, true, true, true, true, true, true, false] rfl rfl (by kernel_rfl) (by decide) (fun K hK => ?_)
      refine Kd.R_append_rows_step fileK (w0 := w8) W.heap.size (by rfl) (.tmp 15) (.tmp 25) 28 38 (.agg #[.string ⟨#[]⟩, .string ⟨#[]⟩]) 32 rfl Try.underlying28 INF.out rfl (by decide) (by decide) (.slice A' k c') ((filesS s).take k) [(nm, tx)] _ _ _ tt (fun _ => False) rfl rfl HR8.out (C_ofR HM.out) (fun _ _ h => h) (fun _ h => h.elim) (fun _ _ => trivial) (Below.refl _ _) HK8.out.1 ?hl ?_
      case hl => exact cap_ok _ _ (Nat.le_of_lt hlt) HN.out.2.2
      intro v9 w9 ho hb hg hat
      have hfin := take_next HQ.out.2.1
      rw [← HQ.out.2.2.2.1, ← HQ.out.2.2.2.2] at hfin
      rw [hfin] at ho
      clear hfin
      obtain ⟨A9, c9, rfl⟩ := Kd.R_slice ho
      rw [take_len HQ.out.2.1] at ho ⊢
      have own38 : ∀ x, (Value.slice A' k c').ownBlock = some x → ∃ cc, w8.heap[x]? = some (.cells cc 38 (0, 0)) := fun x hx => by obtain ⟨_, inner, h1, _⟩ := HR8.out; exact own_typed h1 x hx
      have k38 : ∀ (x : Nat) (c : Array Value) (T : TypeId) (fz : Nat × Nat), T ≠ 38 → w8.heap[x]? = some (Obj.cells c T fz) → w9.heap[x]? = w8.heap[x]? := fun x c T fz hT hx => hg.block x (lt_of_blk hx) (fun e => by obtain ⟨cc, h3⟩ := own38 x e.symm; exact two_types hx h3 hT rfl)
      have HS9 := Aside0.mk (HS8.out.kept2 k38)
      have HK9 := Aside0.mk (HK8.out.then_below hb)
      have HB9 := Aside0.mk (HB8.out.trans (hb.mono HBS.out))
      have HR9 := Aside0.mk ho
      have HC9 := Aside0.mk (show w9.cell? ⟨sb, 2, none⟩ = some (.string nm) by obtain ⟨t', _, hb', _, _⟩ := HS8.out.sink HQ.out.1; rw [← HC8.out]; simp only [World.cell?]; rw [k38 sb _ 49 _ (by decide) (by rw [HQ.out.2.2.1]; exact hb'.blk)])
      clear k38 own38 hb hg hat ho
      show K (Act.put _ (some 26) _) _
      simp only [Act.put, List.setIfInBounds_toArray, List.set_cons_zero, List.set_cons_succ]
      refine hK.out _ _ HC9.out (fun hHeld => ?_)
      clear hK K
      refine pure_ (i := 12) (N := some 3) (v := ?_) (a' := ?_) #[true, true, true, true, true, true, true, true, true, true, true, true, true] rfl rfl (by kernel_rfl) (fun _ _ _ h => h) (Or.inl ⟨by rfl, ?_⟩) ?_ ?_
      rotate_left
      · intro w'
        go_simp
        with_reducible rfl
      rotate_left
      · simp only [Act.put, List.setIfInBounds_toArray, List.set_cons_zero, List.set_cons_succ]
        rfl
      refine done_ (by kernel_rfl) ?_
      go_wp2
      go_roundw
      case rel => exact ⟨k + 1, A9, c9, by omega, by go_num, rfl, HR9, HS9, HB9, HK9⟩
      case measure => simp [intOf]; omega
    · obtain rfl : k = n := by omega
      have e1 : decide ((k : Int) < k) = false := decide_eq_false (by omega)
      go_wp2
      go_ret
      refine ⟨_, rfl, ?_, ⟨_, _, _, _, HSk.out⟩, HBk.out, HKk.out⟩
      have h9 := HRk.out
      rw [List.take_of_length_le (by unfold filesS; rw [List.length_map, ← HN.out.2.1]; exact Nat.le_refl _)] at h9
      exact h9
end Go.Proofs.Ytlccmkfkemilbaa.Bld
