/- The law's one act on both disks, walked by hand (written by mkdoes.py). -/
import Derived.Test.YtnaegemldpfllaaRfK
namespace Go.Proofs.Ytnaegemldpfllaa.Dis
open Go.RowKit Go.Proofs.YtnaegemldpfllaaW.PrintWords Go.Proofs.YtnaegemldpfllaaW.PrintLast Go.Proofs.YtnaegemldpfllaaW.PrintMore Go.Maps
set_option linter.unusedVariables false
set_option linter.unusedSimpArgs false
theorem R_keepR {W W' : World} {b0 : Nat} {v : Value} {xs : List Int} (h : Kd.R (Kd.int .u8) 5 W b0 (fun _ => True) v xs) (hk : KeepR W W') : Kd.R (Kd.int .u8) 5 W' b0 (fun _ => True) v xs :=
  R_kept h (fun k cs q hq hc => by
    have hq' : q = 5 := by simpa [Kd.int, Kd.scalar] using hq
    subst hq'
    exact hk.cells hc (by decide) (by decide) (by decide))
set_option maxHeartbeats 4000000 in
set_option maxRecDepth 100000 in
theorem does1_calls (base gd gr : Nat) (d : D) (r : Rf) (kd at_ : Int) (Ab : Option Addr) (nb cb : Nat) (Ak : Option Addr) (nk ck : Nat) (w W : World) (hd : IsD base W gd d) (hr : IsRf base W gr r) (hB : Below base w W) (hbw : base ≤ w.heap.size)
    (hcnt : d.cnt < 1000000) (hl : -9223372036854775808 < r.left ∧ r.left ≤ 9223372036854775807) (hn : r.at_.length = r.b.length) (ht : r.to_.length = r.ws.length) (hlen : r.at_.length + r.to_.length ≤ 1000000)
    (hi : I64 at_) (xs : List Int) (er : Int) (he1 : (readD d at_).2 = (xs, er)) (he2 : (readR r at_).2 = (xs, er)) (hbl : ∀ k, (lastTo (callR r).1 at_ (bytesR (callR r).1 at_) k).length ≤ 1000000) :
    Calls Try.prog 22 #[.pointer (some ⟨gd, 0, none⟩), .pointer (some ⟨gr, 0, none⟩), .agg #[.int .i64 1, .int .i64 at_, .slice Ab nb cb, .slice Ak nk ck]] W fun e w' => e = .returned (.bool true) ∧ IsD base w' gd (readD d at_).1 ∧ IsRf base w' gr (readR r at_).1 ∧ Below base w w' := by
  have HD := Aside0.mk hd
  have HR := Aside0.mk hr
  have HB := Aside0.mk hB
  have HN := Aside0.mk (And.intro hcnt (And.intro hl (And.intro hn (And.intro ht hlen))))
  have HSZ := Aside0.mk (show base ≤ W.heap.size from Nat.le_of_lt (Nat.lt_of_le_of_lt hd.ge hd.lt))
  have HI := Aside0.mk hi
  have HE1 := Aside0.mk he1
  have HE2 := Aside0.mk he2
  have HBL := Aside0.mk hbl
  clear hd hr hB hcnt hl hn ht hlen hi he1 he2 hbl
  obtain ⟨nx, hnx⟩ : ∃ nx, nx = xs.length := ⟨_, rfl⟩
  have HNX := Aside0.mk hnx
  clear hnx
  have hrc := fun (W' : World) (h : IsD base W' gd d) (hB : Below base w W') => read_calls base gd d at_ HI.out w W' h hB (Nat.le_of_lt HN.out.1)
  simp only [HE1.out] at hrc
  have hrr := fun (W' : World) (h : IsRf base W' gr r) (hB : Below base w W') => rread2_calls base gr r at_ w W' h hB HN.out.2.1 HN.out.2.2.1 HN.out.2.2.2.1 HN.out.2.2.2.2 HBL.out
  simp only [HE2.out] at hrr
  have HRC := Aside0.mk hrc
  have HRR := Aside0.mk hrr
  clear hrc hrr
  go_enter Try.func22, Try.ntmps22
  go_upto_region 5 with fail
  obtain ⟨q, hq⟩ : ∃ q, q = W.heap.size := ⟨_, rfl⟩
  obtain ⟨W1, hW1⟩ : ∃ W1, W1 = W.alloc (Obj.cells #[Value.int IntKind.i64 1, Value.int IntKind.i64 at_, Value.slice Ab nb cb, Value.slice Ak nk ck] 30) := ⟨_, rfl⟩
  rw [← hW1, ← hq]
  have bl0 : Below W.heap.size W W1 := by rw [hW1]; exact below_alloc (Below.refl _ _) _
  have HQ1 := Aside0.mk (show W1.heap[q]? = some (Obj.cells #[Value.int IntKind.i64 1, Value.int IntKind.i64 at_, Value.slice Ab nb cb, Value.slice Ak nk ck] 30 (0, 0)) by rw [hW1, hq]; exact Array.getElem?_push_size)
  have HD1 := Aside0.mk (HD.out.below bl0)
  have HR1 := Aside0.mk (HR.out.below bl0)
  have HB1 := Aside0.mk (HB.out.trans (bl0.mono HSZ.out))
  have HG := Aside0.mk (Nat.le_of_eq hq.symm)
  have HBL0 := Aside0.mk bl0
  clear hW1 bl0 hq
  have cW1_1 : W1.cell? ⟨q, 1, none⟩ = some (.int .i64 at_) := (blk_cell HQ1.out 1).trans rfl
  have cW1_2 : W1.cell? ⟨q, 2, none⟩ = some (.slice Ab nb cb) := (blk_cell HQ1.out 2).trans rfl
  have cW1_3 : W1.cell? ⟨q, 3, none⟩ = some (.slice Ak nk ck) := (blk_cell HQ1.out 3).trans rfl
  go_upto_region 8 with (first
    | (go_at_call 15; refine (HRC.out _ HD1.out HB1.out).mono ?_; rintro e w2 ⟨v2, rfl, h1, h2, h3, h4⟩; obtain ⟨A2, c2, rfl⟩ := Kd.R_slice h4; rw [← HNX.out]; rw [← HNX.out] at h4; have HD2 := Aside0.mk h1; have HB2 := Aside0.mk h2; have HX2 := Aside0.mk h4; have HR2 := Aside0.mk (HR1.out.keepD h3); have HK2 := Aside0.mk h3; have cw2_1 : w2.cell? ⟨q, 1, none⟩ = some (.int .i64 at_) := (blk_cell (h3.2 _ _ _ _ HQ1.out (by decide) (by decide)) 1).trans rfl; clear h1 h2 h3 h4)
    | (go_at_call 36; refine (HRR.out _ HR2.out HB2.out).mono ?_; rintro e w3 ⟨v3, rfl, h1, h2, h3, h4⟩; obtain ⟨A3, c3, rfl⟩ := Kd.R_slice h4; rw [← HNX.out]; rw [← HNX.out] at h4; have HR3 := Aside0.mk h1; have HB3 := Aside0.mk h2; have HY3 := Aside0.mk h4; have HD3 := Aside0.mk (HD2.out.keepR h3.1); have HX3 := Aside0.mk (R_keepR HX2.out h3.1); have HK3 := Aside0.mk h3; clear h1 h2 h3 h4)
    | ((with_reducible refine gate_dst (N := 48) rfl ?_); refine wl_value rfl (exec_conv (x := .tmp 47) rfl rfl (bytes_string (c := c2) (by rw [HNX.out]; exact C_ofR (HNX.out ▸ HX3.out)))) ?_)
    | ((with_reducible refine gate_dst (N := 50) rfl ?_); refine wl_value rfl (exec_conv (x := .tmp 49) rfl rfl (bytes_string (c := c3) (by rw [HNX.out]; exact C_ofR (HNX.out ▸ HY3.out)))) ?_))
  by_cases hp : 0 < nx
  · have e1 : decide ((0 : Int) < (nx : Int)) = true := decide_eq_true (by omega)
    have e2 : decide (0 < nx) = true := decide_eq_true hp
    obtain ⟨gx, hA, -, hgx, hcx⟩ := row_head HX3.out (by rw [← HNX.out]; exact hp)
    subst hA
    obtain ⟨⟨x0, cx⟩, fx⟩ := row_cell HX3.out HNX.out.symm 0 hp
    have HCX := Aside0.mk hcx
    have HGX := Aside0.mk hgx
    clear hcx hgx
    go_wp2
    go_ret
    obtain ⟨p1, p2⟩ := put_row (j := 0) (x := .int .u8 (IntKind.u8.wrap (x0 + 1))) HD3.out HB3.out (Nat.le_trans HSZ.out (Nat.le_trans HBL0.out.size HGX.out)) HCX.out
    exact ⟨rfl, p1, HR1.out.still HK2.out HK3.out.2 HGX.out, p2⟩
  · have e1 : decide ((0 : Int) < (nx : Int)) = false := decide_eq_false (by omega)
    go_wp2
    go_ret
    exact ⟨rfl, HD3.out, HR3.out, HB3.out⟩

end Go.Proofs.Ytnaegemldpfllaa.Dis
