/- The law's one act on both disks, walked by hand (written by mkdoes.py). -/
import Derived.Test.YtnaegemldpfllaaRfL
namespace Go.Proofs.Ytnaegemldpfllaa.Dis
open Go.RowKit Go.Proofs.YtnaegemldpfllaaW.PrintWords Go.Proofs.YtnaegemldpfllaaW.PrintLast Go.Proofs.YtnaegemldpfllaaW.PrintMore Go.Maps
set_option linter.unusedVariables false
set_option linter.unusedSimpArgs false
set_option maxHeartbeats 4000000 in
set_option maxRecDepth 100000 in
theorem does0_calls (base gd gr : Nat) (d : D) (r : Rf) (kd at_ : Int) (Ab : Option Addr) (nb cb : Nat) (Ak : Option Addr) (nk ck : Nat) (w W : World) (hd : IsD base W gd d) (hr : IsRf base W gr r) (hB : Below base w W) (hbw : base ≤ w.heap.size)
    (hcnt : d.cnt < 1000000) (hl : -9223372036854775808 < r.left ∧ r.left ≤ 9223372036854775807) (hn : r.at_.length = r.b.length) (ht : r.to_.length = r.ws.length) (hlen : r.at_.length + r.to_.length ≤ 1000000)
    (b : List Int) (hnb : nb = b.length) (hL : ∀ W', Below base w W' → Kd.C (Kd.int .u8) W' Ab nb b) (hbl : nb ≤ 140737488355328) (ho : OkB b) (er : Int) (he1 : (writeD d at_ b).2 = er) (he2 : (writeR r at_ b).2 = er) (ht2 : r.to_.length ≤ 1000000 ∧ r.ws.length ≤ 1000000) :
    Calls Try.prog 22 #[.pointer (some ⟨gd, 0, none⟩), .pointer (some ⟨gr, 0, none⟩), .agg #[.int .i64 0, .int .i64 at_, .slice Ab nb cb, .slice Ak nk ck]] W fun e w' => e = .returned (.bool true) ∧ IsD base w' gd (writeD d at_ b).1 ∧ IsRf base w' gr (writeR r at_ b).1 ∧ Below base w w' := by
  have HD := Aside0.mk hd
  have HR := Aside0.mk hr
  have HB := Aside0.mk hB
  have HN := Aside0.mk (And.intro hcnt (And.intro hl (And.intro hn (And.intro ht hlen))))
  have HSZ := Aside0.mk (show base ≤ W.heap.size from Nat.le_of_lt (Nat.lt_of_le_of_lt hd.ge hd.lt))
  have HNB := Aside0.mk hnb
  have HL := Aside0.mk hL
  have HBL := Aside0.mk hbl
  have HE1 := Aside0.mk he1
  have HE2 := Aside0.mk he2
  have HT2 := Aside0.mk ht2
  have HOB := Aside0.mk ho
  clear ho
  clear hd hr hB hcnt hl hn ht hlen hnb hL hbl he1 he2 ht2
  have info5 : (Try.prog.info? 5).map (fun i => (i.zero, i.size, i.bytes)) = some (some (.int .u8 0), 1, 1) := by kernel_rfl
  have INF := Aside0.mk info5
  clear info5
  have hwr := fun (W' : World) (h : IsRf base W' gr r) (hB : Below base w W') => rwrite_calls base gr r at_ Ab cb b w W' h hB HN.out.2.1 (fun W' h => by rw [← HNB.out]; exact HL.out W' h) HT2.out
  rw [← HNB.out, HE2.out] at hwr
  have HWR := Aside0.mk hwr
  clear hwr
  go_enter Try.func22, Try.ntmps22
  go_upto_region 3 with fail
  obtain ⟨q, hq⟩ : ∃ q, q = W.heap.size := ⟨_, rfl⟩
  obtain ⟨W1, hW1⟩ : ∃ W1, W1 = W.alloc (Obj.cells #[Value.int IntKind.i64 0, Value.int IntKind.i64 at_, Value.slice Ab nb cb, Value.slice Ak nk ck] 30) := ⟨_, rfl⟩
  rw [← hW1, ← hq]
  have bl0 : Below W.heap.size W W1 := by rw [hW1]; exact below_alloc (Below.refl _ _) _
  have HQ1 := Aside0.mk (show W1.heap[q]? = some (Obj.cells #[Value.int IntKind.i64 0, Value.int IntKind.i64 at_, Value.slice Ab nb cb, Value.slice Ak nk ck] 30 (0, 0)) by rw [hW1, hq]; exact Array.getElem?_push_size)
  have HD1 := Aside0.mk (HD.out.below bl0)
  have HR1 := Aside0.mk (HR.out.below bl0)
  have HB1 := Aside0.mk (HB.out.trans (bl0.mono HSZ.out))
  have HG := Aside0.mk (Nat.le_of_eq hq.symm)
  have HBL0 := Aside0.mk bl0
  clear hW1 bl0 hq
  have hdr : Below W1.heap.size W1 W1.drew := below_drew (Below.refl _ _)
  have HSZ1 := Aside0.mk (show base ≤ W1.drew.heap.size from Nat.le_trans HSZ.out HBL0.out.size)
  have HQ1' := Aside0.mk (blk_below HQ1.out hdr)
  have HD1' := Aside0.mk (HD1.out.below hdr)
  have HR1' := Aside0.mk (HR1.out.below hdr)
  have HB1' := Aside0.mk (HB1.out.trans (hdr.mono (Nat.le_trans HSZ.out HBL0.out.size)))
  clear hdr HQ1 HD1 HR1 HB1
  have HQ1 := HQ1'
  have HD1 := HD1'
  have HR1 := HR1'
  have HB1 := HB1'
  clear HQ1' HD1' HR1' HB1'
  refine start_ (n := 16) (S := fun w' => w'.heap[q]? = some (Obj.cells #[Value.int IntKind.i64 0, Value.int IntKind.i64 at_, Value.slice Ab nb cb, Value.slice Ak nk ck] 30 (0, 0))) (ds := []) #[false, false, false, false, false, false, false, false, false, false, false, false, false, false, false, false] (by kernel_rfl) rfl rfl HQ1.out (fun hHeld => ?_)
  refine pure_ (i := 0) (N := some 16) (v := ?_) (a' := ?_) #[true, false, false, false, false, false, false, false, false, false, false, false, false, false, false, false] rfl rfl (by kernel_rfl) (fun _ _ _ h => h) (Or.inl ⟨by rfl, ?_⟩) ?_ ?_
  rotate_left
  · intro w'
    go_simp
    with_reducible rfl
  rotate_left
  · simp only [Act.put, List.setIfInBounds_toArray, List.set_cons_zero, List.set_cons_succ]
    rfl
  refine pure_ (i := 1) (N := some 17) (v := ?_) (a' := ?_) #[true, true, false, false, false, false, false, false, false, false, false, false, false, false, false, false] rfl rfl (by kernel_rfl) (fun _ _ _ h => h) (Or.inl ⟨by rfl, ?_⟩) ?_ ?_
  rotate_left
  · intro w'
    go_simp
    with_reducible rfl
  rotate_left
  · simp only [Act.put, List.setIfInBounds_toArray, List.set_cons_zero, List.set_cons_succ]
    rfl
  refine take_ (i := 2) (N := some 18) (v := ?_) (a' := ?_) #[true, true, true, false, false, false, false, false, false, false, false, false, false, false, false, false] rfl rfl (by kernel_rfl) (fun _ _ _ h => h) (Or.inl ⟨by rfl, ?_⟩) hHeld ?_ ?_
  rotate_left
  · intro w' s0
    have cl_ := (blk_cell s0 1).trans rfl
    go_simp
    with_reducible rfl
  rotate_left
  · simp only [Act.put, List.setIfInBounds_toArray, List.set_cons_zero, List.set_cons_succ]
    rfl
  refine pure_ (i := 4) (N := some 20) (v := ?_) (a' := ?_) #[true, true, true, false, true, false, false, false, false, false, false, false, false, false, false, false] rfl rfl (by kernel_rfl) (fun _ _ _ h => h) (Or.inl ⟨by rfl, ?_⟩) ?_ ?_
  rotate_left
  · intro w'
    go_simp
    with_reducible rfl
  rotate_left
  · simp only [Act.put, List.setIfInBounds_toArray, List.set_cons_zero, List.set_cons_succ]
    rfl
  refine take_ (i := 5) (N := some 21) (v := ?_) (a' := ?_) #[true, true, true, false, true, true, false, false, false, false, false, false, false, false, false, false] rfl rfl (by kernel_rfl) (fun _ _ _ h => h) (Or.inl ⟨by rfl, ?_⟩) hHeld ?_ ?_
  rotate_left
  · intro w' s0
    have cl_ := (blk_cell s0 2).trans rfl
    go_simp
    with_reducible rfl
  rotate_left
  · simp only [Act.put, List.setIfInBounds_toArray, List.set_cons_zero, List.set_cons_succ]
    rfl
  refine pure_ (i := 8) (N := some 24) (v := ?_) (a' := ?_) #[true, true, true, false, true, true, false, false, true, false, false, false, false, false, false, false] rfl rfl (by kernel_rfl) (fun _ _ _ h => h) (Or.inl ⟨by rfl, ?_⟩) ?_ ?_
  rotate_left
  · intro w'
    go_simp
    with_reducible rfl
  rotate_left
  · simp only [Act.put, List.setIfInBounds_toArray, List.set_cons_zero, List.set_cons_succ]
    rfl
  refine pure_ (i := 9) (N := some 25) (v := ?_) (a' := ?_) #[true, true, true, false, true, true, false, false, true, true, false, false, false, false, false, false] rfl rfl (by kernel_rfl) (fun _ _ _ h => h) (Or.inl ⟨by rfl, ?_⟩) ?_ ?_
  rotate_left
  · intro w'
    go_simp
    with_reducible rfl
  rotate_left
  · simp only [Act.put, List.setIfInBounds_toArray, List.set_cons_zero, List.set_cons_succ]
    rfl
  refine take_ (i := 10) (N := some 26) (v := ?_) (a' := ?_) #[true, true, true, false, true, true, false, false, true, true, true, false, false, false, false, false] rfl rfl (by kernel_rfl) (fun _ _ _ h => h) (Or.inl ⟨by rfl, ?_⟩) hHeld ?_ ?_
  rotate_left
  · intro w' s0
    have cl_ := (blk_cell s0 1).trans rfl
    go_simp
    with_reducible rfl
  rotate_left
  · simp only [Act.put, List.setIfInBounds_toArray, List.set_cons_zero, List.set_cons_succ]
    rfl
  refine pure_ (i := 11) (N := some 27) (v := ?_) (a' := ?_) #[true, true, true, false, true, true, false, false, true, true, true, true, false, false, false, false] rfl rfl (by kernel_rfl) (fun _ _ _ h => h) (Or.inl ⟨by rfl, ?_⟩) ?_ ?_
  rotate_left
  · intro w'
    go_simp
    with_reducible rfl
  rotate_left
  · simp only [Act.put, List.setIfInBounds_toArray, List.set_cons_zero, List.set_cons_succ]
    rfl
  refine take_ (i := 12) (N := some 28) (v := ?_) (a' := ?_) #[true, true, true, false, true, true, false, false, true, true, true, true, true, false, false, false] rfl rfl (by kernel_rfl) (fun _ _ _ h => h) (Or.inl ⟨by rfl, ?_⟩) hHeld ?_ ?_
  rotate_left
  · intro w' s0
    have cl_ := (blk_cell s0 2).trans rfl
    go_simp
    with_reducible rfl
  rotate_left
  · simp only [Act.put, List.setIfInBounds_toArray, List.set_cons_zero, List.set_cons_succ]
    rfl
  refine one_ (i := 3) (N := some 19) #[true, true, true, true, true, true, false, false, true, true, true, true, true, false, false, false] rfl rfl (by kernel_rfl) (by decide) (fun K hK => ?_)
  refine Kd.R_lit_step (Kd.int .u8) (w0 := W1.drew) W1.drew.heap.size 5 (by rfl) (N := 19) rfl (xs := ([] : List Int)) (inner := []) (ok := fun _ => True) (okp := fun _ => True) ?hr ?hp (fun _ h => h) trivial (Below.refl _ _) (Nat.le_refl _) (by simp) ?_
  case hr => first | (go_simp; done) | (go_simp; rfl)
  case hp => exact Reps.none _ _
  intro v3 w3 ho hb hg _
  have HO := Aside0.mk ho
  have HB3 := Aside0.mk hb
  clear ho hb hg
  show K (Act.put _ (some 19) _) _
  simp only [Act.put, List.setIfInBounds_toArray, List.set_cons_zero, List.set_cons_succ]
  refine hK.out _ _ (blk_below HQ1.out HB3.out) (fun hHeld => ?_)
  clear hK K
  refine one_ (i := 6) (N := some 22) #[true, true, true, true, true, true, true, false, true, true, true, true, true, false, false, false] rfl rfl (by kernel_rfl) (by decide) (fun K hK => ?_)
  refine Kd.R_append_rows_step (Kd.int .u8) (w0 := W1.drew) W1.drew.heap.size (by rfl) (.tmp 19) (.tmp 21) 28 5 (.int .u8 0) 1 rfl Try.underlying28 INF.out rfl (by decide) (by decide) v3 [] b _ _ _ (fun _ => True) (fun _ => False) rfl rfl HO.out ?aR (fun _ _ h => h) (fun _ h => h.elim) (fun _ _ => trivial) HB3.out HB3.out.size ?aL ?_
  case aR => have h9 := HL.out w3 (HB1.out.trans (HB3.out.mono HSZ1.out)); exact h9
  case aL => have := HBL.out; have := HNB.out; simp; omega
  intro v4 w4 ho hb hg hat
  rw [List.nil_append] at ho
  obtain ⟨AZ, cZ, rfl⟩ := Kd.R_slice ho
  have HZ := Aside0.mk ho
  have HQ4 := Aside0.mk (blk_below HQ1.out hb)
  have HD4 := Aside0.mk (HD1.out.below hb)
  have HR4 := Aside0.mk (HR1.out.below hb)
  have HB4 := Aside0.mk (HB1.out.trans (hb.mono HSZ1.out))
  clear ho hb hg hat
  show K (Act.put _ (some 22) _) _
  simp only [Act.put, List.setIfInBounds_toArray, List.set_cons_zero, List.set_cons_succ]
  refine hK.out _ _ HQ4.out (fun hHeld => ?_)
  clear hK K
  refine one_ (i := 7) (N := some 23) #[true, true, true, true, true, true, true, true, true, true, true, true, true, false, false, false] rfl rfl (by kernel_rfl) (by decide) (fun K hK => ?_)
  refine goes_ Try.func9 (by kernel_rfl) rfl #[.pointer (some ⟨gd, 0, none⟩), .int .i64 at_, .slice AZ b.length cZ] (by rfl) rfl rfl (by (try simp only [List.map_toArray, List.map_cons, List.map_nil]); first | done | rfl) ?_
  refine (write_calls base gd d at_ AZ cZ b w _ HD4.out HB4.out (lies_of_R HZ.out) HOB.out HN.out.1 hbw).mono ?_
  rw [HE1.out]
  rintro e w5 ⟨rfl, h1, h2, h3⟩
  refine ⟨_, rfl, ?_⟩
  have HD5 := Aside0.mk h1
  have HB5 := Aside0.mk h2
  have HR5 := Aside0.mk (HR4.out.keepD h3)
  have HQ5 := Aside0.mk (h3.2 _ _ _ _ HQ4.out (by decide) (by decide))
  clear h1 h2 h3
  refine hK.out _ _ HQ5.out (fun hHeld => ?_)
  clear hK K
  refine one_ (i := 13) (N := some 29) #[true, true, true, true, true, true, true, true, true, true, true, true, true, true, false, false] rfl rfl (by kernel_rfl) (by decide) (fun K hK => ?_)
  refine goes_ Try.func35 (by kernel_rfl) rfl #[.pointer (some ⟨gr, 0, none⟩), .int .i64 at_, .slice Ab nb cb] (by rfl) rfl rfl (by (try simp only [List.map_toArray, List.map_cons, List.map_nil]); first | done | rfl) ?_
  refine (HWR.out _ HR5.out HB5.out).mono ?_
  rintro e w6 ⟨rfl, h1, h2, h3⟩
  refine ⟨_, rfl, ?_⟩
  have HR6 := Aside0.mk h1
  have HB6 := Aside0.mk h2
  have HD6 := Aside0.mk (HD5.out.keepR h3)
  have HQ6 := Aside0.mk (h3.cells HQ5.out (by decide) (by decide) (by decide))
  clear h1 h2 h3
  refine hK.out _ _ HQ6.out (fun hHeld => ?_)
  clear hK K
  refine pure_ (i := 14) (N := some 30) (v := ?_) (a' := ?_) #[true, true, true, true, true, true, true, true, true, true, true, true, true, true, true, false] rfl rfl (by kernel_rfl) (fun _ _ _ h => h) (Or.inl ⟨by rfl, ?_⟩) ?_ ?_
  rotate_left
  · intro w'
    go_simp
    with_reducible rfl
  rotate_left
  · simp only [Act.put, List.setIfInBounds_toArray, List.set_cons_zero, List.set_cons_succ]
    rfl
  refine pure_ (i := 15) (N := some 6) (v := ?_) (a' := ?_) #[true, true, true, true, true, true, true, true, true, true, true, true, true, true, true, true] rfl rfl (by kernel_rfl) (fun _ _ _ h => h) (Or.inl ⟨by rfl, ?_⟩) ?_ ?_
  rotate_left
  · intro w'
    go_simp
    with_reducible rfl
  rotate_left
  · simp only [Act.put, List.setIfInBounds_toArray, List.set_cons_zero, List.set_cons_succ]
    rfl
  refine done_ (by kernel_rfl) ?_
  go_wp2
  go_ret
  exact ⟨rfl, HD6.out, HR6.out, HB6.out⟩

end Go.Proofs.Ytnaegemldpfllaa.Dis
