/- Wal: record, walked by hand. -/
import Derived.Test.YtmghgghheebnjaaWalC
namespace Go.Proofs.Ytmghgghheebnjaa.Dis
open Go.RowKit Go.Proofs.YtmghgghheebnjaaW.PrintWords Go.Proofs.YtmghgghheebnjaaW.PrintLast Go.Proofs.YtmghgghheebnjaaW.PrintMore Go.Maps Go.Proofs.Ytmghgghheebnjaa.PWalRecords
set_option linter.unusedVariables false
set_option linter.unusedSimpArgs false
abbrev tt : Nat → Prop := fun _ => True
abbrev byteK : Kd Int := Kd.int .u8
def pageB (p : S58) : List Int := bigB p.f0 4 ++ p.f1
def bodyTo (n k : Nat) (l : List S58) : List Int := bigB n 4 ++ ((l.take k).map pageB).flatten
def bodyB (l : List S58) : List Int := bodyTo l.length l.length l
def sectB (seq : Int) (n i : Nat) (b : List Int) : List Int := pad (bigB seq 8 ++ (bigB i 2 ++ (bigB n 2 ++ (b.drop (500 * i)).take 500)))
def recS (seq : Int) (l : List S58) : List (List Int) := (List.range (secsN l.length)).map (fun i => sectB seq (secsN l.length) i (bodyB l))
def recE (seq : Int) (l : List S58) : Int := if seq = 0 then 1 else if l.any (fun p => badB p.f0 p.f1.length) = true then 1 else if 64 < l.length then 210 else if 64 < secsN l.length then 210 else 0
def recR (seq : Int) (l : List S58) : List (List Int) := if recE seq l = 0 then recS seq l else []
theorem bodyTo_len {n k : Nat} {l : List S58} (h : ∀ p ∈ l, p.f1.length = 512) (hk : k ≤ l.length) : (bodyTo n k l).length = 4 + 516 * k := by
  unfold bodyTo
  rw [List.length_append, bigB_len]
  congr 1
  induction k with
  | zero => simp
  | succ k ih =>
    have hg : k < l.length := by omega
    rw [← List.take_append_getElem hg, List.map_append, List.flatten_append, List.length_append, ih (by omega)]
    have h1 := h _ (List.getElem_mem hg)
    simp only [List.map_cons, List.map_nil, List.flatten_cons, List.flatten_nil, List.append_nil, pageB, List.length_append, bigB_len, h1]
    omega
theorem bodyTo_succ {n k : Nat} {l : List S58} (hk : k < l.length) : bodyTo n (k + 1) l = (bodyTo n k l ++ bigB (l.getD k z58).f0 4) ++ (l.getD k z58).f1 := by
  unfold bodyTo
  rw [List.getD_eq_getElem?_getD, List.getElem?_eq_getElem hk, Option.getD_some, ← List.take_append_getElem hk, List.map_append, List.flatten_append]
  simp only [List.map_cons, List.map_nil, List.flatten_cons, List.flatten_nil, List.append_nil, pageB, List.append_assoc]
theorem info5 : (Try.prog.info? 5).map (fun i => (i.zero, i.size, i.bytes)) = some (some (.int .u8 0), 1, 1) := by kernel_rfl
theorem info56 : (Try.prog.info? 56).map (fun i => (i.zero, i.size, i.bytes)) = some (some (.slice none 0 0), 1, 24) := by kernel_rfl
theorem good_all {l : List S58} (h : l.any (fun p => badB p.f0 p.f1.length) = false) : ∀ p ∈ l, 0 ≤ p.f0 ∧ p.f0 ≤ 2147483647 ∧ p.f1.length = 512 := by
  intro p hp
  have h1 := List.any_eq_false.1 h p hp
  unfold badB at h1
  simp only [Bool.or_eq_true, decide_eq_true_eq, Bool.not_eq_true', decide_eq_false_iff_not, not_or, Classical.not_not] at h1
  omega
theorem map_add0 (A : Option Addr) : A.map (fun a => a.add 0) = A := by cases A <;> simp [Addr.add]
theorem ex_hi {o : Oper} {a : Act} {W : World} {t e : TypeId} {x y : Operand} {A : Option Addr} {n c m : Nat} (hu : ∀ w, (underlying t).run Try.prog w = .ok (.slice e) w) (hs : ∀ w, (sizeOf e).run Try.prog w = .ok 1 w) (ho : o.op = .slice t x none (some y) none) (hx : a.eval x = .slice A n c) (hy : a.eval y = .int .i64 ((m : Nat) : Int)) (h : m ≤ c) : (execOp a.eval o).run Try.prog W = .ok (.value (.slice A m c)) W := by
  have e1 : (Instr.slice t (Value.slice A n c) none (some (Value.int IntKind.i64 ((m : Nat) : Int))) none).run Try.prog W = .ok (.slice A m c) W := by
    have hm : (m : Int) ≤ c := by omega
    simp [Instr.slice, Instr.sliceBounds, Instr.sliceBound, asIntOf, hu, hs, h, hm, map_add0]
  have e2 : (Instr.sliceAt t (Value.slice A n c) none (some (Value.int IntKind.i64 ((m : Nat) : Int))) none).run Try.prog W = .ok (.slice A m c) W := by
    simp [Instr.sliceAt, hu, e1]
  simp [execOp, ho, hx, hy, e2]
theorem ex_lo {o : Oper} {a : Act} {W : World} {t e : TypeId} {x y : Operand} {A Ap : Option Addr} {n c m : Nat} (hu : ∀ w, (underlying t).run Try.prog w = .ok (.slice e) w) (hs : ∀ w, (sizeOf e).run Try.prog w = .ok 1 w) (ho : o.op = .slice t x (some y) none none) (hx : a.eval x = .slice A n c) (hy : a.eval y = .int .i64 ((m : Nat) : Int)) (h : m ≤ n) (hA : Ap = if c = m then A else A.map (·.add (m * 1))) : (execOp a.eval o).run Try.prog W = .ok (.value (.slice Ap (n - m) (c - m))) W := by
  have e1 : (Instr.slice t (Value.slice A n c) (some (Value.int IntKind.i64 ((m : Nat) : Int))) none none).run Try.prog W = .ok (.slice Ap (n - m) (c - m)) W := by
    have hm : (m : Int) ≤ n := by omega
    subst hA
    simp [Instr.slice, Instr.sliceBounds, Instr.sliceBound, asIntOf, hu, hs, h, hm]
  have e2 : (Instr.sliceAt t (Value.slice A n c) (some (Value.int IntKind.i64 ((m : Nat) : Int))) none none).run Try.prog W = .ok (.slice Ap (n - m) (c - m)) W := by
    simp [Instr.sliceAt, hu, e1]
  simp [execOp, ho, hx, hy, e2]
theorem und56 (w : World) : (underlying 56).run Try.prog w = .ok (.slice 5) w := by kernel_rfl
theorem size5' (w : World) : (sizeOf 5).run Try.prog w = .ok 1 w := by kernel_rfl
theorem takeC_len {α : Type} {k : Kd α} {w : World} {A : Option Addr} {n m : Nat} {xs : List α} (h : k.C w A n xs) (hm : m ≤ n) : (xs.take m).length = m := by rw [List.length_take, h.1]; omega
theorem sect_eq {seq : Int} {N i m q : Nat} {bd : List Int} (hm : (bd.drop (500 * i)).length = m) (hq : (q = 500 ∧ 500 < m) ∨ (q = m ∧ m ≤ 500)) :
    (((([] ++ bigB seq 8) ++ bigB (i : Int) 2) ++ bigB (N : Int) 2) ++ (bd.drop (500 * i)).take q) ++ List.replicate (500 - (q : Int)).toNat 0 = sectB seq N i bd := by
  have ht : (bd.drop (500 * i)).take q = (bd.drop (500 * i)).take 500 := by
    rcases hq with ⟨rfl, _⟩ | ⟨rfl, h⟩
    · rfl
    · rw [List.take_of_length_le (by omega), List.take_of_length_le (by omega)]
  have hl : ((bd.drop (500 * i)).take 500).length = q := by rw [List.length_take, hm]; omega
  unfold sectB pad
  rw [ht, List.nil_append]
  simp only [List.append_assoc, List.length_append, bigB_len, hl]
  rw [show (500 - (q : Int)).toNat = 512 - (8 + (2 + (2 + q))) by omega]
attribute [local go_sem] max2_int min2_int max_two min_two max_three min_three max_four min_four
set_option maxHeartbeats 8000000 in
set_option maxRecDepth 100000 in
theorem record_c (W : World) (seq : Int) (A : Option Addr) (n c : Nat) (l : List S58) (hC : Kd.C k58 W A n l) (hn : n ≤ 1000000) (h0 : 0 ≤ seq) (h1 : seq < 18446744073709551616) :
    Calls Try.prog 37 #[.int .u64 seq, .slice A n c] W fun e w' => ∃ v, e = .returned (.tuple #[v, .int .i64 (recE seq l)]) ∧ Kd.R (Kd.slice 5 byteK) 56 w' W.heap.size tt v (recR seq l) ∧ Below W.heap.size W w' := by
  have HC := Aside0.mk hC
  have HS := Aside0.mk (And.intro h0 h1)
  have HCT := Aside0.mk (fun (c : Nat) => contains63_c (c := c) hC hn)
  obtain ⟨bad, hbad⟩ : ∃ bad, bad = l.any (fun p => badB p.f0 p.f1.length) := ⟨_, rfl⟩
  rw [← hbad] at HCT
  have HL := Aside0.mk hC.1
  have HBAD := Aside0.mk hbad
  clear hC h0 h1 hbad
  by_cases hs : seq = 0
  · have hE : recE seq l = 1 := by unfold recE; rw [if_pos hs]
    have hR : recR seq l = [] := by unfold recR; rw [hE]; rfl
    rw [hE, hR]
    have e1 : (seq == 0) = true := by simp [hs]
    clear hs hE hR
    go_enter Try.func37, Try.ntmps37
    go_wp2
    go_ret2
    exact ⟨_, rfl, Kd.R_nil _ _ _ _ _, Below.refl _ _⟩
  have e1 : (seq == 0) = false := by simp [hs]
  have HS0 := Aside0.mk hs
  clear hs
  cases bad with
  | true =>
    have hE : recE seq l = 1 := by unfold recE; rw [if_neg HS0.out, if_pos HBAD.out.symm]
    have hR : recR seq l = [] := by unfold recR; rw [hE]; rfl
    rw [hE, hR]
    clear hE hR
    go_enter Try.func37, Try.ntmps37
    go_wp2_with (go_at_call 50; refine (HCT.out c).mono ?_; rintro e w1 ⟨rfl, h1⟩; have HB1 := Aside0.mk h1; clear h1)
    go_ret2
    exact ⟨_, rfl, Kd.R_nil _ _ _ _ _, HB1.out⟩
  | false =>
  by_cases h64 : 64 < n
  · have hE : recE seq l = 210 := by unfold recE; rw [if_neg HS0.out, if_neg (by rw [← HBAD.out]; decide), if_pos (by rw [HL.out]; exact h64)]
    have hR : recR seq l = [] := by unfold recR; rw [hE]; rfl
    rw [hE, hR]
    have e2 : decide ((64 : Int) < n) = true := decide_eq_true (by omega)
    clear hE hR h64
    go_enter Try.func37, Try.ntmps37
    go_wp2_with (go_at_call 50; refine (HCT.out c).mono ?_; rintro e w1 ⟨rfl, h1⟩; have HB1 := Aside0.mk h1; clear h1)
    go_ret2
    exact ⟨_, rfl, Kd.R_nil _ _ _ _ _, HB1.out⟩
  have e2 : decide ((64 : Int) < n) = false := decide_eq_false (by omega)
  have HSE := Aside0.mk (fun (w : World) => sectors_c (w := w) n hn)
  obtain ⟨N, hN⟩ : ∃ N, N = secsN n := ⟨_, rfl⟩
  rw [← hN] at HSE
  have HN := Aside0.mk hN
  have hNb : N ≤ 70 := by rw [hN]; unfold secsN; omega
  clear hN
  by_cases hN64 : 64 < N
  · have hE : recE seq l = 210 := by unfold recE; rw [if_neg HS0.out, if_neg (by rw [← HBAD.out]; decide), HL.out, if_neg h64, ← HN.out, if_pos hN64]
    have hR : recR seq l = [] := by unfold recR; rw [hE]; rfl
    rw [hE, hR]
    have e3 : decide ((64 : Int) < N) = true := decide_eq_true (by omega)
    clear hE hR h64
    go_enter Try.func37, Try.ntmps37
    go_wp2_with (first
      | (go_at_call 50; refine (HCT.out c).mono ?_; rintro e w1 ⟨rfl, h1⟩; have HB1 := Aside0.mk h1; clear h1)
      | (go_at_call 64; refine (HSE.out w1).mono ?_; rintro e w2 ⟨rfl, h1⟩; have HB2 := Aside0.mk (HB1.out.trans (h1.mono HB1.out.size)); clear h1))
    go_ret2
    exact ⟨_, rfl, Kd.R_nil _ _ _ _ _, HB2.out⟩
  have e3 : decide ((64 : Int) < N) = false := decide_eq_false (by omega)
  have hE : recE seq l = 0 := by unfold recE; rw [if_neg HS0.out, if_neg (by rw [← HBAD.out]; decide), HL.out, if_neg h64, ← HN.out, if_neg hN64]
  have hR : recR seq l = (List.range N).map (fun i => sectB seq N i (bodyTo n n l)) := by unfold recR; rw [hE, if_pos rfl]; unfold recS bodyB; rw [HL.out, ← HN.out]
  rw [hE, hR]
  have HG := Aside0.mk (good_all HBAD.out.symm)
  clear hE hR
  have hn64 : n ≤ 64 := by omega
  have hN6 : N ≤ 64 := by omega
  clear h64 hN64
  have INF := Aside0.mk info5
  have INF2 := Aside0.mk info56
  have iw : IntKind.u64.wrap (n : Int) = (n : Int) := u64_in (by omega) (by omega)
  have iN : IntKind.u64.wrap (N : Int) = (N : Int) := u64_in (by omega) (by omega)
  go_enter Try.func37, Try.ntmps37
  go_wp2_with (first
    | (go_at_call 50; refine (HCT.out c).mono ?_; rintro e w1 ⟨rfl, h1⟩; have HB1 := Aside0.mk h1; clear h1)
    | (go_at_call 64; refine (HSE.out w1).mono ?_; rintro e w2 ⟨rfl, h1⟩; have HB2 := Aside0.mk (HB1.out.trans (h1.mono HB1.out.size)); clear h1)
    | (go_at_call 65; refine (big_c (w0 := W) (k := 4) (by omega) (by decide) (by decide) HB2.out (Kd.R_nil byteK 5 w2 W.heap.size (fun _ => False))).mono ?_; rintro e w3 ⟨v3, rfl, h2, h1, _⟩; have HR3 := Aside0.mk (Kd.R_mono (ok' := tt) h2 (fun _ _ => trivial)); have HB3 := Aside0.mk h1; clear h1 h2))
  go_loopw [6, 34] (fun y x wr => ∃ (k : Nat), k ≤ n ∧ x = .int .i64 k ∧ Aside0 (Kd.R byteK 5 wr W.heap.size tt y (bodyTo n k l)) ∧ Aside0 (Below W.heap.size W wr)) (fun _ x _ => n - (intOf x).toNat)
  case atStart => exact ⟨0, Nat.zero_le _, rfl, ⟨by have h := HR3.out; rw [List.nil_append] at h; unfold bodyTo; simpa using h⟩, HB3⟩
  case round =>
    obtain ⟨k, hk, rfl, HRk, HBk⟩ := hrel
    by_cases hlt : k < n
    · have f1 : decide ((k : Int) < n) = true := decide_eq_true (by omega)
      obtain ⟨ad, A1, c1, hA, p0, p1, p2, p3⟩ := at58 HC.out k hlt
      have HSU := Aside0.mk (bodyTo_succ (n := n) (show k < l.length by rw [HL.out]; exact hlt))
      have hg := HG.out (l.getD k z58) (by rw [List.getD_eq_getElem?_getD, List.getElem?_eq_getElem (show k < l.length by rw [HL.out]; exact hlt)]; exact List.getElem_mem _)
      subst hA
      obtain ⟨p, hp⟩ : ∃ p, p = l.getD k z58 := ⟨_, rfl⟩
      rw [← hp] at p0 p1 p2 p3 HSU hg
      clear hp
      obtain ⟨no, pb⟩ := p
      dsimp only at p0 p1 p2 p3 HSU hg
      replace p0 := (HBk.out.cell (World.block_lt_of_cell? W _ p0)).trans p0
      replace p1 := (HBk.out.cell (World.block_lt_of_cell? W _ p1)).trans p1
      rw [hg.2.2] at p1 p3
      have HP1 := Aside0.mk p3
      have HNO := Aside0.mk (show 0 ≤ no ∧ no ≤ 2147483647 from ⟨hg.1, hg.2.1⟩)
      have hlen := bodyTo_len (n := n) (fun p hp => (HG.out p hp).2.2) (show k ≤ l.length by rw [HL.out]; omega)
      obtain ⟨A6, c6, hv⟩ := Kd.R_slice HRk.out
      subst hv
      obtain ⟨m6, hm6⟩ : ∃ m6, m6 = (bodyTo n k l).length := ⟨_, rfl⟩
      have HRk' := Aside0.mk (show Kd.R byteK 5 wr W.heap.size tt (.slice A6 m6 c6) (bodyTo n k l) by rw [hm6]; exact HRk.out)
      rw [← hm6]
      have HLN := Aside0.mk (show (bodyTo n k l).length ≤ 100000 by omega)
      clear HRk hm6 hlen p2 p3 hg
      have HRk := HRk'
      clear HRk'
      go_upto_region 9 with fail
      obtain ⟨w4, hw4⟩ : ∃ w4, w4 = wr.alloc (.cells #[.int .i64 no, .slice A1 512 c1] 58) := ⟨_, rfl⟩
      have hb4 : Below wr.heap.size wr w4 := by rw [hw4]; exact below_alloc (Below.refl _ _) _
      have q4 : w4.heap[wr.heap.size]? = some (.cells #[.int .i64 no, .slice A1 512 c1] 58 (0, 0)) := by rw [hw4]; exact blk_new wr _
      rw [← hw4]
      clear hw4
      obtain ⟨gb, hgb⟩ : ∃ gb, gb = wr.heap.size := ⟨_, rfl⟩
      rw [← hgb] at q4 ⊢
      clear hgb p0 p1
      have HRk' := Aside0.mk (Kd.R_below HRk.out hb4)
      clear HRk
      have HRk := HRk'
      clear HRk'
      have HB4 := Aside0.mk (HBk.out.trans (hb4.mono HBk.out.size))
      have HQ4 := Aside0.mk q4
      clear hb4 q4
      have ino : IntKind.u64.wrap no = no := u64_in HNO.out.1 (by have := HNO.out.2; omega)
      have hdr : Below w4.heap.size w4 w4.drew := below_drew (Below.refl _ _)
      refine start_ (n := 9) (S := fun w' => Below W.heap.size W w' ∧ w'.heap[gb]? = some (.cells #[.int .i64 no, .slice A1 512 c1] 58 (0, 0))) (ds := []) #[false, false, false, false, false, false, false, false, false] (by kernel_rfl) rfl rfl ⟨HB4.out.trans (hdr.mono HB4.out.size), blk_below HQ4.out hdr⟩ (fun hHeld => ?_)
      have HR4 := Aside0.mk (Kd.R_below HRk.out hdr)
      generalize w4.drew = wD at hdr HR4 hHeld ⊢
      refine pure_ (i := 0) (N := some 38) (v := ?_) (a' := ?_) #[true, false, false, false, false, false, false, false, false] rfl rfl (by kernel_rfl) (fun _ _ _ h => h) (Or.inl ⟨by rfl, ?_⟩) ?_ ?_
      rotate_left
      · intro w'
        go_simp
        with_reducible rfl
      rotate_left
      · simp only [Act.put, List.setIfInBounds_toArray, List.set_cons_zero, List.set_cons_succ]
        rfl
      refine pure_ (i := 1) (N := some 39) (v := ?_) (a' := ?_) #[true, true, false, false, false, false, false, false, false] rfl rfl (by kernel_rfl) (fun _ _ _ h => h) (Or.inl ⟨by rfl, ?_⟩) ?_ ?_
      rotate_left
      · intro w'
        go_simp
        with_reducible rfl
      rotate_left
      · simp only [Act.put, List.setIfInBounds_toArray, List.set_cons_zero, List.set_cons_succ]
        rfl
      refine take_ (i := 2) (N := some 40) (v := ?_) (a' := ?_) #[true, true, true, false, false, false, false, false, false] rfl rfl (by kernel_rfl) (fun _ _ _ h => h) (Or.inl ⟨by rfl, ?_⟩) hHeld ?_ ?_
      rotate_left
      · intro w' s0
        have s1 := (blk_cell s0.2 0).trans (rfl : _ = some (Value.int .i64 no))
        go_simp
        with_reducible rfl
      rotate_left
      · simp only [Act.put, List.setIfInBounds_toArray, List.set_cons_zero, List.set_cons_succ]
        rfl
      refine pure_ (i := 3) (N := some 41) (v := .int .u64 no) (a' := ?_) #[true, true, true, true, false, false, false, false, false] rfl rfl (by kernel_rfl) (fun _ _ _ h => h) (Or.inl ⟨by rfl, ?_⟩) ?_ ?_
      · intro w'
        go_simp
        try rw [ino]
      rotate_left
      · simp only [Act.put, List.setIfInBounds_toArray, List.set_cons_zero, List.set_cons_succ]
        rfl
      refine pure_ (i := 5) (N := some 43) (v := ?_) (a' := ?_) #[true, true, true, true, false, true, false, false, false] rfl rfl (by kernel_rfl) (fun _ _ _ h => h) (Or.inl ⟨by rfl, ?_⟩) ?_ ?_
      rotate_left
      · intro w'
        go_simp
        with_reducible rfl
      rotate_left
      · simp only [Act.put, List.setIfInBounds_toArray, List.set_cons_zero, List.set_cons_succ]
        rfl
      refine take_ (i := 6) (N := some 44) (v := ?_) (a' := ?_) #[true, true, true, true, false, true, true, false, false] rfl rfl (by kernel_rfl) (fun _ _ _ h => h) (Or.inl ⟨by rfl, ?_⟩) hHeld ?_ ?_
      rotate_left
      · intro w' s0
        have s1 := (blk_cell s0.2 1).trans (rfl : _ = some (Value.slice A1 512 c1))
        go_simp
        with_reducible rfl
      rotate_left
      · simp only [Act.put, List.setIfInBounds_toArray, List.set_cons_zero, List.set_cons_succ]
        rfl
      refine one_ (i := 4) (N := some 42) #[true, true, true, true, true, true, true, false, false] rfl rfl (by kernel_rfl) (by decide) (fun K1 hK => ?_)
      refine goes_ Try.func65 (by kernel_rfl) rfl #[.slice A6 m6 c6, .int .u64 no, .int .i64 ((4 : Nat) : Int)] (by rfl) rfl rfl (by (try simp only [List.map_toArray, List.map_cons, List.map_nil]); first | done | rfl) ?_
      refine (big_c (w0 := W) (k := 4) HNO.out.1 (by decide) HLN.out hHeld.1 (Kd.R_mono (ok' := fun k => k ≠ gb) (Kd.R_types HR4.out hHeld.2 (by decide)) (fun k hk => hk.2))).mono ?_
      rintro e w5 ⟨v5, rfl, hr5, hb5, hk5⟩
      have hq5 := (hk5.2 gb (Array.getElem?_eq_some_iff.1 hHeld.2).1 (fun h => h rfl)).trans hHeld.2
      refine ⟨v5, rfl, ?_⟩
      have HR5 := Aside0.mk (Kd.R_mono (ok' := tt) hr5 (fun _ _ => trivial))
      clear hr5 hk5
      refine hK.out _ _ ⟨hb5, hq5⟩ (fun hHeld => ?_)
      clear hK K1 hb5 hq5
      obtain ⟨b5, hb5⟩ : ∃ b5, b5 = bodyTo n k l ++ bigB no 4 := ⟨_, rfl⟩
      rw [← hb5] at HR5
      have HBB := Aside0.mk hb5
      clear hb5
      obtain ⟨A5, c5, e5⟩ := Kd.R_slice HR5.out
      subst e5
      refine one_ (i := 7) (N := some 45) #[true, true, true, true, true, true, true, true, false] rfl rfl (by kernel_rfl) (by decide) (fun K1 hK => ?_)
      refine Kd.R_append_rows_step byteK (w0 := W) W.heap.size (by rfl) (.tmp 42) (.tmp 44) 56 5 (.int .u8 0) 1 rfl Try.underlying56 INF.out rfl (by decide) (by decide) (.slice A5 b5.length c5) b5 pb A1 512 c1 tt (fun _ => False) rfl rfl HR5.out (Kd.C_below HP1.out hHeld.1) (fun _ _ h => h) (fun _ h => h.elim) (fun _ _ => trivial) hHeld.1 hHeld.1.size ?hl ?_
      case hl => rw [HBB.out, List.length_append, bigB_len]; have := HLN.out; omega
      intro v6 w6 ho hb6 hG hat
      have hq6 := (hG.block gb (Array.getElem?_eq_some_iff.1 hHeld.2).1 (Kd.R_ne HR5.out hHeld.2 (by decide))).trans hHeld.2
      rw [HBB.out] at ho
      have HO6 := Aside0.mk ho
      clear ho hG hat
      show K1 (Act.put _ (some 45) _) _
      simp only [Act.put, List.setIfInBounds_toArray, List.set_cons_zero, List.set_cons_succ]
      refine hK.out _ _ ⟨hb6, hq6⟩ (fun hHeld => ?_)
      clear hK K1 hq6
      refine pure_ (i := 8) (N := some 6) (v := ?_) (a' := ?_) #[true, true, true, true, true, true, true, true, true] rfl rfl (by kernel_rfl) (fun _ _ _ h => h) (Or.inl ⟨by rfl, ?_⟩) ?_ ?_
      rotate_left
      · intro w'
        go_simp
        with_reducible rfl
      rotate_left
      · simp only [Act.put, List.setIfInBounds_toArray, List.set_cons_zero, List.set_cons_succ]
        rfl
      refine done_ (by kernel_rfl) ?_
      go_wp2
      go_roundw
      case rel => exact ⟨k + 1, by omega, by go_num, ⟨by rw [HSU.out]; exact HO6.out⟩, ⟨hb6⟩⟩
      case measure => simp [intOf]; omega
    · obtain rfl : k = n := by omega
      have f1 : decide ((k : Int) < k) = false := decide_eq_false (by omega)
      obtain ⟨A6, c6, hv⟩ := Kd.R_slice HRk.out
      subst hv
      have hlen := bodyTo_len (n := k) (fun p hp => (HG.out p hp).2.2) (show k ≤ l.length by rw [HL.out]; exact Nat.le_refl _)
      obtain ⟨bd, hbd⟩ : ∃ bd, bd = bodyTo k k l := ⟨_, rfl⟩
      rw [← hbd] at hlen HRk ⊢
      have HBD := Aside0.mk hbd
      clear hbd
      have HNB := Aside0.mk (show 500 * N < bd.length + 500 ∧ bd.length ≤ 500 * N by rw [hlen, HN.out]; unfold secsN; omega)
      obtain ⟨m6, hm6⟩ : ∃ m6, m6 = bd.length := ⟨_, rfl⟩
      have HM6 := Aside0.mk hm6
      have HRk' := Aside0.mk (show Kd.R byteK 5 wr W.heap.size tt (.slice A6 m6 c6) bd by rw [hm6]; exact HRk.out)
      rw [← hm6] at hlen ⊢
      clear HRk hm6 hlen
      go_upto_region 13 with (go_at_call 64; refine (HSE.out wr).mono ?_; rintro e w7 ⟨rfl, h1⟩; have HB7 := Aside0.mk (HBk.out.trans (h1.mono HBk.out.size)); have HR7 := Aside0.mk (Kd.R_below HRk'.out h1); clear h1)
      have HC6 := Aside0.mk (Kd.R_reads' HR7.out)
      clear HRk' HR7
      go_wp2_with fail
      go_loopw [6, 10, 51] (fun y z x wr => ∃ (i m c : Nat) (A : Option Addr), i ≤ N ∧ x = .int .i64 i ∧ y = .slice A m c ∧ m ≤ 100000 ∧ m ≤ c ∧ Aside0 (m = bd.length - 500 * i) ∧ Aside0 (Kd.C byteK w7 A m (bd.drop (500 * i))) ∧ Aside0 (Kd.R (Kd.slice 5 byteK) 56 wr w7.heap.size tt z ((List.range i).map (fun i => sectB seq N i bd))) ∧ Aside0 (Below w7.heap.size w7 wr)) (fun _ _ x _ => N - (intOf x).toNat)
      case atStart => exact ⟨0, m6, c6, A6, Nat.zero_le _, rfl, rfl, by have := HNB.out; have := HM6.out; omega, HC6.out.2.1, ⟨by rw [HM6.out]; omega⟩, ⟨by rw [Nat.mul_zero, List.drop_zero, HM6.out]; exact HC6.out.2.2⟩, ⟨Kd.R_nil _ _ _ _ _⟩, ⟨Below.refl _ _⟩⟩
      case round =>
        obtain ⟨i, m, c', A', hi, rfl, rfl, hm1, hmc, HMI, HCi, HRi, HB8⟩ := hrel
        by_cases hlt2 : i < N
        · have f2 : decide ((i : Int) < N) = true := decide_eq_true (by omega)
          have iI : IntKind.u64.wrap (i : Int) = (i : Int) := u64_in (by omega) (by omega)
          obtain ⟨Ao, co, hvo⟩ := Kd.R_slice HRi.out
          subst hvo
          obtain ⟨no, hno⟩ : ∃ no, no = ((List.range i).map (fun i => sectB seq N i bd)).length := ⟨_, rfl⟩
          have HRi' := Aside0.mk (show Kd.R (Kd.slice 5 byteK) 56 wr w7.heap.size tt (.slice Ao no co) ((List.range i).map (fun i => sectB seq N i bd)) by rw [hno]; exact HRi.out)
          rw [← hno]
          have HNO := Aside0.mk (show no = i by rw [hno]; simp)
          clear HRi hno
          by_cases hq : 500 < m
          · have f3 : (500 : Int) < m := by omega
            obtain ⟨Ap, hAp⟩ : ∃ Ap, Ap = if c' = 500 then A' else A'.map (·.add (500 * 1)) := ⟨_, rfl⟩
            have HAP := Aside0.mk hAp
            clear hAp
            have HQS := Aside0.mk (show 500 ≤ m ∧ 500 ≤ c' ∧ 500 ≤ 500 by omega)
            go_wp2_with (first
              | (go_at_call 65; first
                | (refine (big_c (w0 := wr) (k := 2) (n := (N : Int)) (by omega) (by decide) (by simp [bigB_len]) HB10.out HR10.out).mono ?_; rintro e w11 ⟨v11, rfl, hr, hb, _⟩; have HR11 := Aside0.mk (Kd.R_mono (ok' := fun k => wr.heap.size ≤ k) hr (fun k hk => hk.elim id (fun h => Nat.le_trans HB10.out.size h))); have HB11 := Aside0.mk hb; clear hr hb; obtain ⟨hd, hhd⟩ : ∃ hd, hd = (([] ++ bigB seq 8) ++ bigB (i : Int) 2) ++ bigB (N : Int) 2 := ⟨_, rfl⟩; rw [← hhd] at HR11; have hl12 : hd.length = 12 := (by rw [hhd]; simp [bigB_len]); obtain ⟨A11, c11, e11⟩ := Kd.R_slice HR11.out; rw [hl12] at e11; subst e11; have HHD := Aside0.mk (And.intro hhd hl12); clear hhd hl12)
                | (refine (big_c (w0 := wr) (k := 2) (n := (i : Int)) (by omega) (by decide) (by simp [bigB_len]) HB9.out HR9.out).mono ?_; rintro e w10 ⟨v10, rfl, hr, hb, _⟩; have HR10 := Aside0.mk (Kd.R_mono (ok' := fun k => wr.heap.size ≤ k) hr (fun k hk => hk.elim id (fun h => Nat.le_trans HB9.out.size h))); have HB10 := Aside0.mk hb; clear hr hb)
                | (refine (big_c (w0 := wr) (k := 8) (n := seq) HS.out.1 (by decide) (by decide) (Below.refl _ _) (Kd.R_nil byteK 5 wr wr.heap.size (fun _ => False))).mono ?_; rintro e w9 ⟨v9, rfl, hr, hb, _⟩; have HR9 := Aside0.mk (Kd.R_mono (ok' := fun k => wr.heap.size ≤ k) hr (fun k hk => hk.elim False.elim id)); have HB9 := Aside0.mk hb; clear hr hb))
              | ((with_reducible refine gate_dst (N := 67) rfl ?_); refine event_run rfl (ex_hi (m := 500) und56 size5' rfl rfl rfl HQS.out.2.1) ?_)
              | ((with_reducible refine gate_dst (N := 68) rfl ?_); at_builtin; refine Kd.R_append_rows byteK (w0 := wr) wr.heap.size rfl (.tmp 62) (.tmp 67) 56 5 (.int .u8 0) 1 rfl Try.underlying56 INF.out rfl (by decide) (by decide) (.slice A11 12 c11) hd ((bd.drop (500 * i)).take 500) A' 500 c' (fun k => wr.heap.size ≤ k) (fun _ => False) rfl rfl HR11.out (takeC (Kd.C_below HCi.out (HB8.out.trans (HB11.out.mono HB8.out.size))) HQS.out.1) (fun _ _ h => h) (fun _ h => h.elim) (fun k hk => Nat.le_trans HB11.out.size hk) HB11.out HB11.out.size ?hl ?_; (case hl => rw [HHD.out.2]; omega); intro v12 w12 ho hb hG hat; obtain ⟨s12, hs12⟩ : ∃ s12, s12 = hd ++ (bd.drop (500 * i)).take 500 := ⟨_, rfl⟩; rw [← hs12] at ho; have HR12 := Aside0.mk ho; have hl12 : s12.length = 12 + 500 := (by rw [hs12, List.length_append, HHD.out.2, takeC_len HCi.out HQS.out.1]); obtain ⟨A12, c12, e12⟩ := Kd.R_slice ho; rw [hl12] at e12; subst e12; have HS12 := Aside0.mk (And.intro hs12 hl12); have HB12 := Aside0.mk hb; clear ho hb hG hat hs12 hl12)
              | ((with_reducible refine gate_dst (N := 73) rfl ?_); refine event_run rfl (ex_lo (m := 500) und56 size5' rfl rfl rfl HQS.out.1 HAP.out) ?_)
              | ((with_reducible refine gate_dst (N := 79) rfl ?_); at_builtin; refine Kd.R_append_zeros byteK (w0 := wr) wr.heap.size rfl (.tmp 75) (.tmp 78) 56 3 5 (.int .u8 0) 1 rfl Try.underlying56 Try.underlying3 INF.out rfl (by decide) (by decide) (.slice A12 (12 + 500) c12) s12 0 (kx := .i64) (500 - (500 : Int)) (fun k => wr.heap.size ≤ k) rfl (by first | rfl | (go_simp; omega) | (go_simp; go_num)) ?aZ (fun k hk => Nat.le_trans HB12.out.size hk) HR12.out (by omega) HB12.out HB12.out.size ?aL ?_; (case aZ => rfl); (case aL => rw [HS12.out.2]; omega); intro v13 w13 ho hb hg hat; obtain ⟨s13, hs13⟩ : ∃ s13, s13 = s12 ++ List.replicate (500 - (500 : Int)).toNat 0 := ⟨_, rfl⟩; rw [← hs13] at ho; have HR13 := Aside0.mk ho; obtain ⟨A13, c13, e13⟩ := Kd.R_slice ho; have hl13 : s13.length = 512 := (by rw [hs13, List.length_append, List.length_replicate, HS12.out.2]; omega); rw [hl13] at e13; subst e13; have HS13 := Aside0.mk (And.intro hs13 hl13); have HB13 := Aside0.mk hb; clear ho hb hg hat hs13 hl13)
              | ((with_reducible refine gate_dst (N := 81) rfl ?_); at_builtin; refine Kd.R_append (Kd.slice 5 byteK) (w0 := w7) (W := w13) w7.heap.size rfl (.tmp 74) (.tmp 80) 24 56 (.slice none 0 0) 24 rfl Try.underlying24 INF2.out rfl (by decide) (by decide) (.slice Ao no co) ((List.range i).map (fun i => sectB seq N i bd)) s13 [.slice A13 512 c13] tt (fun k => wr.heap.size ≤ k) rfl rfl ⟨_, rfl, Kd.R_lower HR13.out HB8.out.size⟩ (fun k hk => ⟨trivial, fun e => Nat.not_lt.2 hk (Kd.R_lt HRi'.out k e.symm)⟩) (fun _ _ => trivial) (Kd.R_below HRi'.out HB13.out) (HB8.out.trans (HB13.out.mono HB8.out.size)) (HB8.out.trans (HB13.out.mono HB8.out.size)).size ?hl ?_; (case hl => have := HNO.out; simp; omega); intro v14 w14 ho hb hG hat; have HO14 := Aside0.mk ho; have HB14 := Aside0.mk hb; clear ho hb hG hat))
            go_roundw
            case rel => exact ⟨i + 1, m - 500, c' - 500, _, by omega, by go_num, rfl, by omega, by omega, ⟨by have := HMI.out; omega⟩, ⟨by have h := dropC (Ap := _) HCi.out HQS.out.1 hmc rfl rfl; rw [List.drop_drop, if_neg (by omega)] at h; rw [Nat.mul_add, Nat.mul_one]; exact h⟩, ⟨by rw [List.range_succ, List.map_append, List.map_cons, List.map_nil, ← sect_eq HCi.out.1 (.inl ⟨rfl, hq⟩), ← HHD.out.1, ← HS12.out.1]; have h := HO14.out; rw [HS13.out.1] at h; exact h⟩, HB14⟩
            case measure => simp [intOf]; omega
          · have f3 : ¬ (500 : Int) < m := by omega
            obtain ⟨Ap, hAp⟩ : ∃ Ap, Ap = if c' = m then A' else A'.map (·.add (m * 1)) := ⟨_, rfl⟩
            have HAP := Aside0.mk hAp
            clear hAp
            have HQS := Aside0.mk (show m ≤ m ∧ m ≤ c' ∧ m ≤ 500 by omega)
            go_wp2_with (first
              | (go_at_call 65; first
                | (refine (big_c (w0 := wr) (k := 2) (n := (N : Int)) (by omega) (by decide) (by simp [bigB_len]) HB10.out HR10.out).mono ?_; rintro e w11 ⟨v11, rfl, hr, hb, _⟩; have HR11 := Aside0.mk (Kd.R_mono (ok' := fun k => wr.heap.size ≤ k) hr (fun k hk => hk.elim id (fun h => Nat.le_trans HB10.out.size h))); have HB11 := Aside0.mk hb; clear hr hb; obtain ⟨hd, hhd⟩ : ∃ hd, hd = (([] ++ bigB seq 8) ++ bigB (i : Int) 2) ++ bigB (N : Int) 2 := ⟨_, rfl⟩; rw [← hhd] at HR11; have hl12 : hd.length = 12 := (by rw [hhd]; simp [bigB_len]); obtain ⟨A11, c11, e11⟩ := Kd.R_slice HR11.out; rw [hl12] at e11; subst e11; have HHD := Aside0.mk (And.intro hhd hl12); clear hhd hl12)
                | (refine (big_c (w0 := wr) (k := 2) (n := (i : Int)) (by omega) (by decide) (by simp [bigB_len]) HB9.out HR9.out).mono ?_; rintro e w10 ⟨v10, rfl, hr, hb, _⟩; have HR10 := Aside0.mk (Kd.R_mono (ok' := fun k => wr.heap.size ≤ k) hr (fun k hk => hk.elim id (fun h => Nat.le_trans HB9.out.size h))); have HB10 := Aside0.mk hb; clear hr hb)
                | (refine (big_c (w0 := wr) (k := 8) (n := seq) HS.out.1 (by decide) (by decide) (Below.refl _ _) (Kd.R_nil byteK 5 wr wr.heap.size (fun _ => False))).mono ?_; rintro e w9 ⟨v9, rfl, hr, hb, _⟩; have HR9 := Aside0.mk (Kd.R_mono (ok' := fun k => wr.heap.size ≤ k) hr (fun k hk => hk.elim False.elim id)); have HB9 := Aside0.mk hb; clear hr hb))
              | ((with_reducible refine gate_dst (N := 67) rfl ?_); refine event_run rfl (ex_hi (m := m) und56 size5' rfl rfl rfl HQS.out.2.1) ?_)
              | ((with_reducible refine gate_dst (N := 68) rfl ?_); at_builtin; refine Kd.R_append_rows byteK (w0 := wr) wr.heap.size rfl (.tmp 62) (.tmp 67) 56 5 (.int .u8 0) 1 rfl Try.underlying56 INF.out rfl (by decide) (by decide) (.slice A11 12 c11) hd ((bd.drop (500 * i)).take m) A' m c' (fun k => wr.heap.size ≤ k) (fun _ => False) rfl rfl HR11.out (takeC (Kd.C_below HCi.out (HB8.out.trans (HB11.out.mono HB8.out.size))) HQS.out.1) (fun _ _ h => h) (fun _ h => h.elim) (fun k hk => Nat.le_trans HB11.out.size hk) HB11.out HB11.out.size ?hl ?_; (case hl => rw [HHD.out.2]; omega); intro v12 w12 ho hb hG hat; obtain ⟨s12, hs12⟩ : ∃ s12, s12 = hd ++ (bd.drop (500 * i)).take m := ⟨_, rfl⟩; rw [← hs12] at ho; have HR12 := Aside0.mk ho; have hl12 : s12.length = 12 + m := (by rw [hs12, List.length_append, HHD.out.2, takeC_len HCi.out HQS.out.1]); obtain ⟨A12, c12, e12⟩ := Kd.R_slice ho; rw [hl12] at e12; subst e12; have HS12 := Aside0.mk (And.intro hs12 hl12); have HB12 := Aside0.mk hb; clear ho hb hG hat hs12 hl12)
              | ((with_reducible refine gate_dst (N := 73) rfl ?_); refine event_run rfl (ex_lo (m := m) und56 size5' rfl rfl rfl HQS.out.1 HAP.out) ?_)
              | ((with_reducible refine gate_dst (N := 79) rfl ?_); at_builtin; refine Kd.R_append_zeros byteK (w0 := wr) wr.heap.size rfl (.tmp 75) (.tmp 78) 56 3 5 (.int .u8 0) 1 rfl Try.underlying56 Try.underlying3 INF.out rfl (by decide) (by decide) (.slice A12 (12 + m) c12) s12 0 (kx := .i64) (500 - (m : Int)) (fun k => wr.heap.size ≤ k) rfl (by first | rfl | (go_simp; omega) | (go_simp; go_num)) ?aZ (fun k hk => Nat.le_trans HB12.out.size hk) HR12.out (by omega) HB12.out HB12.out.size ?aL ?_; (case aZ => rfl); (case aL => rw [HS12.out.2]; omega); intro v13 w13 ho hb hg hat; obtain ⟨s13, hs13⟩ : ∃ s13, s13 = s12 ++ List.replicate (500 - (m : Int)).toNat 0 := ⟨_, rfl⟩; rw [← hs13] at ho; have HR13 := Aside0.mk ho; obtain ⟨A13, c13, e13⟩ := Kd.R_slice ho; have hl13 : s13.length = 512 := (by rw [hs13, List.length_append, List.length_replicate, HS12.out.2]; omega); rw [hl13] at e13; subst e13; have HS13 := Aside0.mk (And.intro hs13 hl13); have HB13 := Aside0.mk hb; clear ho hb hg hat hs13 hl13)
              | ((with_reducible refine gate_dst (N := 81) rfl ?_); at_builtin; refine Kd.R_append (Kd.slice 5 byteK) (w0 := w7) (W := w13) w7.heap.size rfl (.tmp 74) (.tmp 80) 24 56 (.slice none 0 0) 24 rfl Try.underlying24 INF2.out rfl (by decide) (by decide) (.slice Ao no co) ((List.range i).map (fun i => sectB seq N i bd)) s13 [.slice A13 512 c13] tt (fun k => wr.heap.size ≤ k) rfl rfl ⟨_, rfl, Kd.R_lower HR13.out HB8.out.size⟩ (fun k hk => ⟨trivial, fun e => Nat.not_lt.2 hk (Kd.R_lt HRi'.out k e.symm)⟩) (fun _ _ => trivial) (Kd.R_below HRi'.out HB13.out) (HB8.out.trans (HB13.out.mono HB8.out.size)) (HB8.out.trans (HB13.out.mono HB8.out.size)).size ?hl ?_; (case hl => have := HNO.out; simp; omega); intro v14 w14 ho hb hG hat; have HO14 := Aside0.mk ho; have HB14 := Aside0.mk hb; clear ho hb hG hat))
            go_roundw
            case rel => exact ⟨i + 1, m - m, c' - m, _, by omega, by go_num, (by rw [Nat.sub_self]), by omega, by omega, ⟨by have := HMI.out; omega⟩, ⟨by have h := dropC (Ap := _) HCi.out HQS.out.1 hmc rfl rfl; rw [List.drop_of_length_le (by rw [HCi.out.1]; exact Nat.le_refl _)] at h; rw [List.drop_of_length_le (show bd.length ≤ 500 * (i + 1) by have := HMI.out; omega)]; simpa using h⟩, ⟨by rw [List.range_succ, List.map_append, List.map_cons, List.map_nil, ← sect_eq HCi.out.1 (.inr ⟨rfl, by omega⟩), ← HHD.out.1, ← HS12.out.1]; have h := HO14.out; rw [HS13.out.1] at h; exact h⟩, HB14⟩
            case measure => simp [intOf]; omega
        · obtain rfl : i = N := by omega
          have f2 : decide ((i : Int) < i) = false := decide_eq_false (by omega)
          go_wp2
          go_ret2
          have hfin := Kd.R_lower HRi.out HB7.out.size
          rw [HBD.out] at hfin
          exact ⟨_, rfl, by first | exact hfin | simpa using hfin, HB7.out.trans (HB8.out.mono HB7.out.size)⟩
end Go.Proofs.Ytmghgghheebnjaa.Dis
