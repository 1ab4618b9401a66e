/- The law's one act on both disks, walked by hand (written by mkdoes.py). -/
import Derived.Test.YtnaegemldpfllaaRfJ
import Derived.Test.YtnaegemldpfllaaDisT
namespace Go.Proofs.Ytnaegemldpfllaa.Dis
open Go.RowKit Go.Proofs.YtnaegemldpfllaaW.PrintWords Go.Proofs.YtnaegemldpfllaaW.PrintLast Go.Proofs.YtnaegemldpfllaaW.PrintMore Go.Maps
set_option linter.unusedVariables false
set_option linter.unusedSimpArgs false
set_option maxHeartbeats 4000000 in
set_option maxRecDepth 100000 in
theorem does2_calls (base gd gr : Nat) (d : D) (r : Rf) (kd at_ : Int) (Ab : Option Addr) (nb cb : Nat) (Ak : Option Addr) (nk ck : Nat) (w W : World) (hd : IsD base W gd d) (hr : IsRf base W gr r) (hB : Below base w W) (hbw : base ≤ w.heap.size)
    (hcnt : d.cnt < 1000000) (hl : -9223372036854775808 < r.left ∧ r.left ≤ 9223372036854775807) (hn : r.at_.length = r.b.length) (ht : r.to_.length = r.ws.length) (hlen : r.at_.length + r.to_.length ≤ 1000000)
    (he : (flushD d).2 = (flushR r).2) :
    Calls Try.prog 22 #[.pointer (some ⟨gd, 0, none⟩), .pointer (some ⟨gr, 0, none⟩), .agg #[.int .i64 2, .int .i64 at_, .slice Ab nb cb, .slice Ak nk ck]] W fun e w' => e = .returned (.bool true) ∧ IsD base w' gd (flushD d).1 ∧ IsRf base w' gr (flushR r).1 ∧ Below base w w' := by
  have HD := Aside0.mk hd
  have HR := Aside0.mk hr
  have HB := Aside0.mk hB
  have HN := Aside0.mk (And.intro hcnt (And.intro hl (And.intro hn (And.intro ht hlen))))
  have HSZ := Aside0.mk (show base ≤ W.heap.size from Nat.le_of_lt (Nat.lt_of_le_of_lt hd.ge hd.lt))
  have HE := Aside0.mk he
  clear hd hr hB hcnt hl hn ht hlen he
  go_enter Try.func22, Try.ntmps22
  go_upto_region 12 with fail
  obtain ⟨q, hq⟩ : ∃ q, q = W.heap.size := ⟨_, rfl⟩
  obtain ⟨W1, hW1⟩ : ∃ W1, W1 = W.alloc (Obj.cells #[Value.int IntKind.i64 2, Value.int IntKind.i64 at_, Value.slice Ab nb cb, Value.slice Ak nk ck] 30) := ⟨_, rfl⟩
  rw [← hW1, ← hq]
  have bl0 : Below W.heap.size W W1 := by rw [hW1]; exact below_alloc (Below.refl _ _) _
  have HQ1 := Aside0.mk (show W1.heap[q]? = some (Obj.cells #[Value.int IntKind.i64 2, Value.int IntKind.i64 at_, Value.slice Ab nb cb, Value.slice Ak nk ck] 30 (0, 0)) by rw [hW1, hq]; exact Array.getElem?_push_size)
  have HD1 := Aside0.mk (HD.out.below bl0)
  have HR1 := Aside0.mk (HR.out.below bl0)
  have HB1 := Aside0.mk (HB.out.trans (bl0.mono HSZ.out))
  have HG := Aside0.mk (Nat.le_of_eq hq.symm)
  have HBL0 := Aside0.mk bl0
  clear hW1 bl0 hq
  obtain ⟨x, hx⟩ : ∃ x, x = (flushR r).2 := ⟨_, rfl⟩
  have HX := Aside0.mk hx
  clear hx
  go_wp2_with (first
    | (go_at_call 11; refine (flush_calls base gd d w _ HD1.out HB1.out hbw HN.out.1).mono ?_; rintro e w2 ⟨he2, h1, h2, h3⟩; rw [HE.out, ← HX.out] at he2; subst he2; have HD2 := Aside0.mk h1; have HB2 := Aside0.mk h2; have HR2 := Aside0.mk (HR1.out.keepD h3); clear h1 h2 h3)
    | (go_at_call 37; refine (rflush_calls base gr r w _ HR2.out HB2.out HN.out.2.1 HN.out.2.2.1 HN.out.2.2.2.1 HN.out.2.2.2.2).mono ?_; rintro e w3 ⟨he2, h1, h2, h3⟩; rw [← HX.out] at he2; subst he2; have HR3 := Aside0.mk h1; have HB3 := Aside0.mk h2; have HD3 := Aside0.mk (HD2.out.keepR h3); clear h1 h2 h3))
  go_ret
  exact ⟨rfl, HD3.out, HR3.out, HB3.out⟩
set_option maxHeartbeats 4000000 in
set_option maxRecDepth 100000 in
theorem does3_calls (base gd gr : Nat) (d : D) (r : Rf) (kd at_ : Int) (Ab : Option Addr) (nb cb : Nat) (Ak : Option Addr) (nk ck : Nat) (w W : World) (hd : IsD base W gd d) (hr : IsRf base W gr r) (hB : Below base w W) (hbw : base ≤ w.heap.size)
    (hcnt : d.cnt < 1000000) (hl : -9223372036854775808 < r.left ∧ r.left ≤ 9223372036854775807) (hn : r.at_.length = r.b.length) (ht : r.to_.length = r.ws.length) (hlen : r.at_.length + r.to_.length ≤ 1000000)
    (hc : at_ ≤ 9223372036854775807) :
    Calls Try.prog 22 #[.pointer (some ⟨gd, 0, none⟩), .pointer (some ⟨gr, 0, none⟩), .agg #[.int .i64 3, .int .i64 at_, .slice Ab nb cb, .slice Ak nk ck]] W fun e w' => e = .returned (.bool true) ∧ IsD base w' gd (armD d at_) ∧ IsRf base w' gr (armR r at_) ∧ Below base w w' := by
  have HD := Aside0.mk hd
  have HR := Aside0.mk hr
  have HB := Aside0.mk hB
  have HN := Aside0.mk (And.intro hcnt (And.intro hl (And.intro hn (And.intro ht hlen))))
  have HSZ := Aside0.mk (show base ≤ W.heap.size from Nat.le_of_lt (Nat.lt_of_le_of_lt hd.ge hd.lt))
  have HC := Aside0.mk hc
  clear hd hr hB hcnt hl hn ht hlen hc
  go_enter Try.func22, Try.ntmps22
  go_upto_region 14 with fail
  obtain ⟨q, hq⟩ : ∃ q, q = W.heap.size := ⟨_, rfl⟩
  obtain ⟨W1, hW1⟩ : ∃ W1, W1 = W.alloc (Obj.cells #[Value.int IntKind.i64 3, Value.int IntKind.i64 at_, Value.slice Ab nb cb, Value.slice Ak nk ck] 30) := ⟨_, rfl⟩
  rw [← hW1, ← hq]
  have bl0 : Below W.heap.size W W1 := by rw [hW1]; exact below_alloc (Below.refl _ _) _
  have HQ1 := Aside0.mk (show W1.heap[q]? = some (Obj.cells #[Value.int IntKind.i64 3, Value.int IntKind.i64 at_, Value.slice Ab nb cb, Value.slice Ak nk ck] 30 (0, 0)) by rw [hW1, hq]; exact Array.getElem?_push_size)
  have HD1 := Aside0.mk (HD.out.below bl0)
  have HR1 := Aside0.mk (HR.out.below bl0)
  have HB1 := Aside0.mk (HB.out.trans (bl0.mono HSZ.out))
  have HG := Aside0.mk (Nat.le_of_eq hq.symm)
  have HBL0 := Aside0.mk bl0
  clear hW1 bl0 hq
  have cW1_1 : W1.cell? ⟨q, 1, none⟩ = some (.int .i64 at_) := (blk_cell HQ1.out 1).trans rfl
  have cW1_2 : W1.cell? ⟨q, 2, none⟩ = some (.slice Ab nb cb) := (blk_cell HQ1.out 2).trans rfl
  have cW1_3 : W1.cell? ⟨q, 3, none⟩ = some (.slice Ak nk ck) := (blk_cell HQ1.out 3).trans rfl
  go_wp2_with (first
    | (go_at_call 16; refine (arm_calls base gd d at_ HC.out w _ HD1.out HB1.out).mono ?_; rintro e w2 ⟨rfl, h1, h2, h3⟩; have HD2 := Aside0.mk h1; have HB2 := Aside0.mk h2; have HR2 := Aside0.mk (HR1.out.keepD h3); have cw2_1 : w2.cell? ⟨q, 1, none⟩ = some (.int .i64 at_) := (blk_cell (h3.2 _ _ _ _ HQ1.out (by decide) (by decide)) 1).trans rfl; clear h1 h2 h3)
    | (go_at_call 38; refine (rarm_calls base gr r at_ w _ HR2.out HB2.out).mono ?_; rintro e w3 ⟨rfl, h1, h2, h3⟩; have HR3 := Aside0.mk h1; have HB3 := Aside0.mk h2; have HD3 := Aside0.mk (HD2.out.keepR h3); clear h1 h2 h3))
  go_ret
  exact ⟨rfl, HD3.out, HR3.out, HB3.out⟩
set_option maxHeartbeats 4000000 in
set_option maxRecDepth 100000 in
theorem does4_calls (base gd gr : Nat) (d : D) (r : Rf) (kd at_ : Int) (Ab : Option Addr) (nb cb : Nat) (Ak : Option Addr) (nk ck : Nat) (w W : World) (hd : IsD base W gd d) (hr : IsRf base W gr r) (hB : Below base w W) (hbw : base ≤ w.heap.size)
    (hcnt : d.cnt < 1000000) (hl : -9223372036854775808 < r.left ∧ r.left ≤ 9223372036854775807) (hn : r.at_.length = r.b.length) (ht : r.to_.length = r.ws.length) (hlen : r.at_.length + r.to_.length ≤ 1000000)
    (l : List Bool) (hnk : nk = l.length) (hL : ∀ W', Below base w W' → Kd.C Kd.bool W' Ak nk l) (hll : nk ≤ 140737488355328) :
    Calls Try.prog 22 #[.pointer (some ⟨gd, 0, none⟩), .pointer (some ⟨gr, 0, none⟩), .agg #[.int .i64 4, .int .i64 at_, .slice Ab nb cb, .slice Ak nk ck]] W fun e w' => e = .returned (.bool true) ∧ IsD base w' gd (crashD d l) ∧ IsRf base w' gr (crashR r l) ∧ Below base w w' := by
  have HD := Aside0.mk hd
  have HR := Aside0.mk hr
  have HB := Aside0.mk hB
  have HN := Aside0.mk (And.intro hcnt (And.intro hl (And.intro hn (And.intro ht hlen))))
  have HSZ := Aside0.mk (show base ≤ W.heap.size from Nat.le_of_lt (Nat.lt_of_le_of_lt hd.ge hd.lt))
  have HNK := Aside0.mk hnk
  have HL := Aside0.mk hL
  have HLL := Aside0.mk hll
  clear hd hr hB hcnt hl hn ht hlen hnk hL hll
  have info4 : (Try.prog.info? 4).map (fun i => (i.zero, i.size, i.bytes)) = some (some (.bool false), 1, 1) := by kernel_rfl
  have INB := Aside0.mk info4
  clear info4
  go_enter Try.func22, Try.ntmps22
  go_upto_region 17 with fail
  obtain ⟨q, hq⟩ : ∃ q, q = W.heap.size := ⟨_, rfl⟩
  obtain ⟨W1, hW1⟩ : ∃ W1, W1 = W.alloc (Obj.cells #[Value.int IntKind.i64 4, Value.int IntKind.i64 at_, Value.slice Ab nb cb, Value.slice Ak nk ck] 30) := ⟨_, rfl⟩
  rw [← hW1, ← hq]
  have bl0 : Below W.heap.size W W1 := by rw [hW1]; exact below_alloc (Below.refl _ _) _
  have HQ1 := Aside0.mk (show W1.heap[q]? = some (Obj.cells #[Value.int IntKind.i64 4, Value.int IntKind.i64 at_, Value.slice Ab nb cb, Value.slice Ak nk ck] 30 (0, 0)) by rw [hW1, hq]; exact Array.getElem?_push_size)
  have HD1 := Aside0.mk (HD.out.below bl0)
  have HR1 := Aside0.mk (HR.out.below bl0)
  have HB1 := Aside0.mk (HB.out.trans (bl0.mono HSZ.out))
  have HG := Aside0.mk (Nat.le_of_eq hq.symm)
  have HBL0 := Aside0.mk bl0
  clear hW1 bl0 hq
  have cW1_1 : W1.cell? ⟨q, 1, none⟩ = some (.int .i64 at_) := (blk_cell HQ1.out 1).trans rfl
  have cW1_2 : W1.cell? ⟨q, 2, none⟩ = some (.slice Ab nb cb) := (blk_cell HQ1.out 2).trans rfl
  have cW1_3 : W1.cell? ⟨q, 3, none⟩ = some (.slice Ak nk ck) := (blk_cell HQ1.out 3).trans rfl
  go_wp2_with (first
    | ((with_reducible refine gate_dst (N := 86) rfl ?_); refine Kd.R_lit Kd.bool W1.heap.size 4 ?hg (N := 86) ?hd (xs := ([] : List Bool)) (inner := []) (ok := fun _ => True) (okp := fun _ => True) ?hr ?hp (fun _ hk => hk) trivial (Below.refl _ _) (Nat.le_refl _) (by simp) ?_; (case hd => rfl); (case hg => rfl); (case hr => first | (go_simp; done) | (go_simp; rfl)); (case hp => exact (Reps.none _ _)); intro v3 w3 ho4 hb hg_ hnew_; clear hg_ hnew_; have HO := Aside0.mk ho4; have HB3 := Aside0.mk hb; have cw3 : w3.cell? ⟨q, 3, none⟩ = some (.slice Ak nk ck) := (blk_cell (blk_below HQ1.out hb) 3).trans rfl; clear hb ho4)
    | ((with_reducible refine gate_dst (N := 89) rfl ?_); at_builtin; refine Kd.R_append_rows Kd.bool (w0 := W1) W1.heap.size rfl (.tmp 86) (.tmp 88) 23 4 (.bool false) 1 rfl Try.underlying23 INB.out rfl (by decide) (by omega) v3 [] l _ _ _ (fun _ => True) (fun _ => False) rfl rfl ?aO ?aR (fun _ _ h => h) (fun _ h => h.elim) ?aF ?aB ?aS ?aL ?_; (case aR => have h9 := HL.out w3 (HB1.out.trans (HB3.out.mono (Nat.le_trans HSZ.out HBL0.out.size))); exact h9); (case aB => exact HB3.out); (case aF => exact (fun _ _ => trivial)); (case aO => exact HO.out); (case aS => exact HB3.out.size); (case aL => have := HLL.out; have := HNK.out; simp; omega); intro v4 w4 ho hb hg hat; rw [List.nil_append] at ho; obtain ⟨AZ, cZ, rfl⟩ := Kd.R_slice ho; have HZ := Aside0.mk ho; have HQ4 := Aside0.mk (blk_below HQ1.out hb); have HD4 := Aside0.mk (HD1.out.below hb); have HR4 := Aside0.mk (HR1.out.below hb); have HB4 := Aside0.mk (HB1.out.trans (hb.mono (Nat.le_trans HSZ.out HBL0.out.size))); clear ho hb hg hat)
    | (go_at_call 13; refine (crash_calls base gd d w _ HD4.out HB4.out hbw HN.out.1 AZ cZ l (fun W' hk _ => lies_bool HZ.out W' hk)).mono ?_; rintro e w5 ⟨rfl, h1, h2, h3⟩; have HD5 := Aside0.mk h1; have HB5 := Aside0.mk h2; have HR5 := Aside0.mk (HR4.out.keepD h3); have cw5 : w5.cell? ⟨q, 3, none⟩ = some (.slice Ak nk ck) := (blk_cell (h3.2 _ _ _ _ HQ4.out (by decide) (by decide)) 3).trans rfl; clear h1 h2 h3)
    | (go_at_call 39; rw [HNK.out]; refine (rcrash_calls base gr r w _ HR5.out HB5.out HN.out.2.2.1 HN.out.2.2.2.1 HN.out.2.2.2.2 Ak ck l (fun W' _ hb' => by rw [← HNK.out]; exact HL.out W' hb') (by have := HLL.out; have := HNK.out; omega)).mono ?_; rintro e w6 ⟨rfl, h1, h2, h3⟩; have HR6 := Aside0.mk h1; have HB6 := Aside0.mk h2; have HD6 := Aside0.mk (HD5.out.keepR h3); clear h1 h2 h3))
  go_ret
  exact ⟨rfl, HD6.out, HR6.out, HB6.out⟩
set_option maxHeartbeats 4000000 in
set_option maxRecDepth 100000 in
theorem does5_calls (base gd gr : Nat) (d : D) (r : Rf) (kd at_ : Int) (Ab : Option Addr) (nb cb : Nat) (Ak : Option Addr) (nk ck : Nat) (w W : World) (hd : IsD base W gd d) (hr : IsRf base W gr r) (hB : Below base w W) (hbw : base ≤ w.heap.size)
    (hcnt : d.cnt < 1000000) (hl : -9223372036854775808 < r.left ∧ r.left ≤ 9223372036854775807) (hn : r.at_.length = r.b.length) (ht : r.to_.length = r.ws.length) (hlen : r.at_.length + r.to_.length ≤ 1000000)
    (h0 : kd ≠ 0) (h1 : kd ≠ 1) (h2 : kd ≠ 2) (h3 : kd ≠ 3) (h4 : kd ≠ 4) :
    Calls Try.prog 22 #[.pointer (some ⟨gd, 0, none⟩), .pointer (some ⟨gr, 0, none⟩), .agg #[.int .i64 kd, .int .i64 at_, .slice Ab nb cb, .slice Ak nk ck]] W fun e w' => e = .returned (.bool true) ∧ IsD base w' gd d ∧ IsRf base w' gr r ∧ Below base w w' := by
  have HD := Aside0.mk hd
  have HR := Aside0.mk hr
  have HB := Aside0.mk hB
  have HN := Aside0.mk (And.intro hcnt (And.intro hl (And.intro hn (And.intro ht hlen))))
  have HSZ := Aside0.mk (show base ≤ W.heap.size from Nat.le_of_lt (Nat.lt_of_le_of_lt hd.ge hd.lt))
  clear hd hr hB hcnt hl hn ht hlen 
  have e0 : (kd == 0) = false := by simp [h0]
  have e1 : (kd == 1) = false := by simp [h1]
  have e2 : (kd == 2) = false := by simp [h2]
  have e3 : (kd == 3) = false := by simp [h3]
  have e4 : (kd == 4) = false := by simp [h4]
  clear h0 h1 h2 h3 h4
  have bl0 : Below W.heap.size W (W.alloc (Obj.cells #[Value.int IntKind.i64 kd, Value.int IntKind.i64 at_, Value.slice Ab nb cb, Value.slice Ak nk ck] 30)) := below_alloc (Below.refl _ _) _
  have HBL0 := Aside0.mk bl0
  clear bl0
  go_enter Try.func22, Try.ntmps22
  go_wp2
  go_ret
  exact ⟨rfl, HD.out.below HBL0.out, HR.out.below HBL0.out, HB.out.trans (HBL0.out.mono HSZ.out)⟩
end Go.Proofs.Ytnaegemldpfllaa.Dis
