/- Wal: scan, walked by hand (written by mkwale.py). -/
import Derived.Test.YtmghgghheebnjaaWalD
namespace Go.Proofs.Ytmghgghheebnjaa.Dis
open Go.RowKit Go.Proofs.YtmghgghheebnjaaW.PrintWords Go.Proofs.YtmghgghheebnjaaW.PrintLast Go.Proofs.YtmghgghheebnjaaW.PrintMore Go.Maps Go.Proofs.Ytmghgghheebnjaa.PWalRecords
set_option linter.unusedVariables false
set_option linter.unusedSimpArgs false
abbrev rowK : Kd (List Int) := Kd.slice 5 byteK
def seqS (l : List (List Int)) : Int := numB ((l.getD 0 []).take 8)
def cntS (l : List (List Int)) : Int := numB (((l.getD 0 []).take 12).drop 10)
def logB (l : List (List Int)) (n : Nat) : List Int := ((l.take n).map (fun s => s.drop 12)).flatten
def manyB (b : List Int) : Int := numB (b.take 4)
def noAt (b : List Int) (j : Nat) : Int := numB ((b.drop (4 + 516 * j)).take 4)
def pageAt (b : List Int) (j : Nat) : S58 := ⟨noAt b j, ((b.drop (4 + 516 * j)).take 516).drop 4⟩
structure ScanOk (l : List (List Int)) (n m : Nat) : Prop where
  ne : 0 < l.length
  l0 : (l.getD 0 []).length = 512
  sq : seqS l ≠ 0
  cn : cntS l = (n : Int)
  n1 : 1 ≤ n
  n64 : n ≤ 64
  nl : n ≤ l.length
  part : ∀ i : Nat, i < n → partP (l.getD i []) (seqS l) i n
  mn : manyB (logB l n) = (m : Int)
  m64 : m ≤ 64
  secs : secsN m = n
  nos : ∀ j : Nat, j < m → noAt (logB l n) j ≤ 2147483647
def outS (l : List (List Int)) (n m : Nat) : List S58 := (List.range m).map (pageAt (logB l n))
/-- What scan says. -/
def ScanR (l : List (List Int)) (sq : Int) (out : List S58) (ok : Bool) : Prop := (ok = true ∧ sq = seqS l ∧ ∃ n m, ScanOk l n m ∧ out = outS l n m) ∨ (ok = false ∧ sq = 0 ∧ out = [] ∧ ∀ n m, ¬ ScanOk l n m)
theorem row_b {w : World} {A : Option Addr} {m : Nat} {ls : List (List Int)} (h : rowK.C w A m ls) (k : Nat) (hk : k < m) :
    ∃ ad B cB, A = some ad ∧ w.cell? (ad.add k) = some (.slice B (ls.getD k []).length cB) ∧ (ls.getD k []).length ≤ cB ∧ Kd.C byteK w B (ls.getD k []).length (ls.getD k []) := by
  obtain ⟨ad, c, hA, hl, hK, hc⟩ := Kd.C_get h [] (k : Int) (by omega) (by omega)
  simp only [Int.toNat_natCast] at hK hc
  obtain ⟨B, cB, rfl, h1, h2⟩ := hK
  have := hc 0 _ rfl
  have hs : rowK.sz = 1 := rfl
  rw [hs, Nat.mul_one, Nat.add_zero] at this
  exact ⟨ad, B, cB, hA, this, h1, h2⟩
theorem ex_mid {o : Oper} {a : Act} {W : World} {t e : TypeId} {x y z : Operand} {A Ap : Option Addr} {n c m h : Nat} (hu : ∀ w, (underlying t).run Try.prog w = .ok (.slice e) w) (hs : ∀ w, (sizeOf e).run Try.prog w = .ok 1 w) (ho : o.op = .slice t x (some y) (some z) none) (hx : a.eval x = .slice A n c) (hy : a.eval y = .int .i64 ((m : Nat) : Int)) (hz : a.eval z = .int .i64 ((h : Nat) : Int)) (h1 : m ≤ h) (h2 : h ≤ c) (hA : Ap = if c = m then A else A.map (·.add (m * 1))) : (execOp a.eval o).run Try.prog W = .ok (.value (.slice Ap (h - m) (c - m))) W := by
  have e1 : (Instr.slice t (Value.slice A n c) (some (Value.int IntKind.i64 ((m : Nat) : Int))) (some (Value.int IntKind.i64 ((h : Nat) : Int))) none).run Try.prog W = .ok (.slice Ap (h - m) (c - m)) W := by
    have hm : (m : Int) ≤ h := by omega
    have hm2 : (h : Int) ≤ c := by omega
    subst hA
    simp [Instr.slice, Instr.sliceBounds, Instr.sliceBound, asIntOf, hu, hs, h1, h2, hm, hm2]
  have e2 : (Instr.sliceAt t (Value.slice A n c) (some (Value.int IntKind.i64 ((m : Nat) : Int))) (some (Value.int IntKind.i64 ((h : Nat) : Int))) none).run Try.prog W = .ok (.slice Ap (h - m) (c - m)) W := by
    simp [Instr.sliceAt, hu, e1]
  simp [execOp, ho, hx, hy, hz, e2]
theorem info58' : (Try.prog.info? 58).map (fun i => (i.zero, i.size, i.bytes)) = some (some (.agg #[.int .i64 0, .slice none 0 0]), 2, 32) := by kernel_rfl
theorem logB_succ {l : List (List Int)} {k : Nat} (hk : k < l.length) : logB l (k + 1) = logB l k ++ (l.getD k []).drop 12 := by
  unfold logB
  rw [List.getD_eq_getElem?_getD, List.getElem?_eq_getElem hk, Option.getD_some, ← List.take_append_getElem hk, List.map_append, List.flatten_append]
  simp only [List.map_cons, List.map_nil, List.flatten_cons, List.flatten_nil, List.append_nil]
theorem logB_len {l : List (List Int)} : ∀ (k : Nat), k ≤ l.length → (∀ i, i < k → (l.getD i []).length = 512) → (logB l k).length = 500 * k := by
  intro k
  induction k with
  | zero => intro _ _; simp [logB]
  | succ k ih =>
    intro hk h
    rw [logB_succ hk, List.length_append, ih (by omega) (fun i hi => h i (by omega)), List.length_drop, h k (by omega)]
    omega
theorem logB_ok {l : List (List Int)} (h : ∀ s ∈ l, BytesOk s) (k : Nat) : BytesOk (logB l k) := by
  intro x hx
  unfold logB at hx
  obtain ⟨s, hs, hxs⟩ := List.mem_flatten.1 hx
  obtain ⟨s', hs', rfl⟩ := List.mem_map.1 hs
  exact (h s' (List.mem_of_mem_take hs')).drop 12 x hxs
theorem getD_ok {l : List (List Int)} (h : ∀ s ∈ l, BytesOk s) (k : Nat) : BytesOk (l.getD k []) := by
  rw [List.getD_eq_getElem?_getD]
  by_cases hk : k < l.length
  · rw [List.getElem?_eq_getElem hk]; exact h _ (List.getElem_mem hk)
  · rw [List.getElem?_eq_none (by omega)]; intro x hx; cases hx
attribute [local go_sem] max2_int min2_int max_two min_two max_three min_three max_four min_four
set_option maxHeartbeats 16000000 in
set_option maxRecDepth 100000 in
theorem scan_c (W : World) (A : Option Addr) (n c : Nat) (l : List (List Int)) (hC : rowK.C W A n l) (hcap : n ≤ c) (hn : n ≤ 1000000) (hb : ∀ s ∈ l, BytesOk s) :
    Calls Try.prog 40 #[.slice A n c] W fun e w' => ∃ (sq : Int) (out : List S58) (ok : Bool) (v : Value), e = .returned (.tuple #[.int .u64 sq, v, .bool ok]) ∧ ScanR l sq out ok ∧ Kd.R k58 58 w' W.heap.size tt v out ∧ Below W.heap.size W w' := by
  have HC := Aside0.mk hC
  have HL := Aside0.mk hC.1
  have HBO := Aside0.mk hb
  clear hC hb
  have NO := Aside0.mk (fun (w : World) (hB : Below W.heap.size W w) (h : ∀ n m, ¬ ScanOk l n m) => (⟨0, [], false, .slice none 0 0, rfl, .inr ⟨rfl, rfl, rfl, h⟩, Kd.R_nil _ _ _ _ _, hB⟩ : ∃ (sq : Int) (out : List S58) (ok : Bool) (v : Value), (Ending.returned (.tuple #[.int .u64 0, .slice none 0 0, .bool false]) : Ending) = .returned (.tuple #[.int .u64 sq, v, .bool ok]) ∧ ScanR l sq out ok ∧ Kd.R k58 58 w W.heap.size tt v out ∧ Below W.heap.size W w))
  by_cases h0 : n = 0
  · subst h0
    go_enter Try.func40, Try.ntmps40
    go_wp2
    refine bodyPost_ret (results_list (rs := [.tmp 2, .tmp 3, .tmp 4]) rfl (by simp) (.tmp (.tmp (.tmp .nil)))) rfl ?_
    exact NO.out W (Below.refl _ _) (fun n m h => by have h1 := h.ne; rw [HL.out] at h1; omega)
  have f0 : ((n : Int) == 0) = false := by simp; omega
  obtain ⟨ad, B0, c0, hA, cel0, hle0, hC0⟩ := row_b HC.out 0 (by omega)
  subst hA
  rw [show ad.add 0 = ad from by simp [Addr.add]] at cel0
  obtain ⟨s0, hs0⟩ : ∃ s0, s0 = l.getD 0 [] := ⟨_, rfl⟩
  rw [← hs0] at cel0 hle0 hC0
  obtain ⟨n0, hn0⟩ : ∃ n0, n0 = s0.length := ⟨_, rfl⟩
  rw [← hn0] at cel0 hle0 hC0
  have HS0 := Aside0.mk hs0
  have HN0 := Aside0.mk hn0
  have HC0 := Aside0.mk hC0
  have HCE := Aside0.mk cel0
  clear hs0 hn0 hC0
  by_cases h5 : n0 = 512
  case neg =>
    have f1 : ((n0 : Int) != 512) = true := by simp; omega
    go_enter Try.func40, Try.ntmps40
    go_wp2
    refine bodyPost_ret (results_list (rs := [.tmp 2, .tmp 3, .tmp 4]) rfl (by simp) (.tmp (.tmp (.tmp .nil)))) rfl ?_
    exact NO.out W (Below.refl _ _) (fun n m h => h5 (by rw [HN0.out, HS0.out]; exact h.l0))
  subst h5
  obtain ⟨bd, hA, _⟩ := HC0.out.2.2 (by decide)
  subst hA
  have hok0 : BytesOk s0 := by rw [HS0.out]; exact getD_ok HBO.out 0
  have HBS := Aside0.mk hok0
  have N1 := Aside0.mk (fun (w' : World) (hB : Below W.heap.size W w') => number_c (n := 8) (c := c0) (l := s0.take 8) (by rw [List.length_take, ← HN0.out]; rfl) (by rw [List.length_take]; omega) (hok0.take 8) (takeC (Kd.C_below HC0.out hB) (by decide)) (by omega))
  have N2 := Aside0.mk (fun (w' : World) (hB : Below W.heap.size W w') => number_c (n := 2) (c := c0 - 10) (A := some (bd.add 10)) (l := (s0.take 12).drop 10) (by rw [List.length_drop, List.length_take, ← HN0.out]; rfl) (by rw [List.length_drop, List.length_take]; omega) ((hok0.take 12).drop 10) (dropC (n := 12) (m := 10) (c := c0) (takeC (Kd.C_below HC0.out hB) (by decide)) (by decide) (by omega) rfl (by rw [if_neg (by omega)]; rfl)) (by omega))
  have e1 : numB (s0.take 8) = seqS l := by rw [HS0.out]; rfl
  have e2 : numB ((s0.take 12).drop 10) = cntS l := by rw [HS0.out]; rfl
  have b1 := numB_bound (hok0.take 8)
  have b2 := numB_bound ((hok0.take 12).drop 10)
  rw [List.length_take, ← HN0.out] at b1
  rw [List.length_drop, List.length_take, ← HN0.out] at b2
  rw [e1] at N1 b1
  rw [e2] at N2 b2
  obtain ⟨sq, hsq⟩ : ∃ sq, sq = seqS l := ⟨_, rfl⟩
  obtain ⟨N, hN⟩ : ∃ N : Nat, N = (cntS l).toNat := ⟨_, rfl⟩
  have hN' : cntS l = (N : Int) := by omega
  have hNb : N < 65536 := by have := b2.2; rw [hN'] at this; have h : (256 : Int) ^ (min 12 512 - 10) = 65536 := by decide
                             omega
  have hsb : 0 ≤ sq ∧ sq < 18446744073709551616 := by have := b1; rw [← hsq] at this; have h : (256 : Int) ^ (min 8 512) = 18446744073709551616 := by decide
                                                      omega
  rw [← hsq] at N1
  rw [hN'] at N2
  have HSQ := Aside0.mk hsq
  have HNN := Aside0.mk hN'
  clear e1 e2 b1 b2 hsq hN hN' hok0
  have q10 : ¬ c0 = 10 := by omega
  have iN : IntKind.i64.wrap (N : Int) = (N : Int) := by rw [IntKind.wrap_i64]; omega
  have ct10 : ∀ w', Below W.heap.size W w' → w'.cell? ad = some (.slice (some bd) 512 c0) := fun w' hB => (hB.cell (World.block_lt_of_cell? W _ HCE.out)).trans HCE.out
  have HCT := Aside0.mk ct10
  clear ct10
  go_enter Try.func40, Try.ntmps40
  go_upto_region 3 with fail
  have hdr : Below W.heap.size W W.drew := below_drew (Below.refl _ _)
  refine start_ (n := 13) (S := fun w' => Below W.heap.size W w') (ds := []) #[false, false, false, false, false, false, false, false, false, false, false, false, false] (by kernel_rfl) rfl rfl hdr (fun hHeld => ?_)
  generalize W.drew = wD at hdr hHeld ⊢
  refine pure_ (i := 0) (N := some 23) (v := ?_) (a' := ?_) #[true, false, false, false, false, false, false, false, false, false, false, false, false] rfl rfl (by kernel_rfl) (fun _ _ _ h => h) (Or.inl ⟨by rfl, ?_⟩) ?_ ?_
  rotate_left
  · intro w'
    go_simp
    with_reducible rfl
  rotate_left
  · simp only [Act.put, List.setIfInBounds_toArray, List.set_cons_zero, List.set_cons_succ]
    rfl
  refine pure_ (i := 1) (N := some 24) (v := .pointer (some ad)) (a' := ?_) #[true, true, false, false, false, false, false, false, false, false, false, false, false] rfl rfl (by kernel_rfl) (fun _ _ _ h => h) (Or.inl ⟨by rfl, ?_⟩) ?_ ?_
  · intro w'
    first | (go_simp; done) | (go_simp; rw [if_pos (show 0 < n by omega)])
  rotate_left
  · simp only [Act.put, List.setIfInBounds_toArray, List.set_cons_zero, List.set_cons_succ]
    rfl
  refine take_ (i := 2) (N := some 25) (v := ?_) (a' := ?_) #[true, true, true, false, false, false, false, false, false, false, false, false, false] rfl rfl (by kernel_rfl) (fun _ _ _ h => h) (Or.inl ⟨by rfl, ?_⟩) hHeld ?_ ?_
  rotate_left
  · intro w' s0
    have s1 := HCT.out w' s0
    go_simp
    with_reducible rfl
  rotate_left
  · simp only [Act.put, List.setIfInBounds_toArray, List.set_cons_zero, List.set_cons_succ]
    rfl
  refine pure_ (i := 3) (N := some 26) (v := .slice (some bd) 8 c0) (a' := ?_) #[true, true, true, true, false, false, false, false, false, false, false, false, false] rfl rfl (by kernel_rfl) (fun _ _ _ h => h) (Or.inl ⟨by rfl, ?_⟩) ?_ ?_
  · intro w'
    exact ex_hi (x := .tmp 25) (y := .const (.int .i64 8)) (m := 8) und56 size5' rfl rfl rfl (by omega)
  rotate_left
  · simp only [Act.put, List.setIfInBounds_toArray, List.set_cons_zero, List.set_cons_succ]
    rfl
  refine pure_ (i := 5) (N := some 28) (v := ?_) (a' := ?_) #[true, true, true, true, false, true, false, false, false, false, false, false, false] rfl rfl (by kernel_rfl) (fun _ _ _ h => h) (Or.inl ⟨by rfl, ?_⟩) ?_ ?_
  rotate_left
  · intro w'
    go_simp
    with_reducible rfl
  rotate_left
  · simp only [Act.put, List.setIfInBounds_toArray, List.set_cons_zero, List.set_cons_succ]
    rfl
  refine pure_ (i := 6) (N := some 29) (v := .pointer (some ad)) (a' := ?_) #[true, true, true, true, false, true, true, false, false, false, false, false, false] rfl rfl (by kernel_rfl) (fun _ _ _ h => h) (Or.inl ⟨by rfl, ?_⟩) ?_ ?_
  · intro w'
    first | (go_simp; done) | (go_simp; rw [if_pos (show 0 < n by omega)])
  rotate_left
  · simp only [Act.put, List.setIfInBounds_toArray, List.set_cons_zero, List.set_cons_succ]
    rfl
  refine take_ (i := 7) (N := some 30) (v := ?_) (a' := ?_) #[true, true, true, true, false, true, true, true, false, false, false, false, false] rfl rfl (by kernel_rfl) (fun _ _ _ h => h) (Or.inl ⟨by rfl, ?_⟩) hHeld ?_ ?_
  rotate_left
  · intro w' s0
    have s1 := HCT.out w' s0
    go_simp
    with_reducible rfl
  rotate_left
  · simp only [Act.put, List.setIfInBounds_toArray, List.set_cons_zero, List.set_cons_succ]
    rfl
  refine pure_ (i := 8) (N := some 31) (v := .slice (some (bd.add 10)) 2 (c0 - 10)) (a' := ?_) #[true, true, true, true, false, true, true, true, true, false, false, false, false] rfl rfl (by kernel_rfl) (fun _ _ _ h => h) (Or.inl ⟨by rfl, ?_⟩) ?_ ?_
  · intro w'
    exact ex_mid (x := .tmp 30) (y := .const (.int .i64 10)) (z := .const (.int .i64 12)) (m := 10) (h := 12) und56 size5' rfl rfl rfl rfl (by decide) (by omega) (by rw [if_neg (by omega)]; rfl)
  rotate_left
  · simp only [Act.put, List.setIfInBounds_toArray, List.set_cons_zero, List.set_cons_succ]
    rfl
  refine one_ (i := 4) (N := some 27) #[true, true, true, true, true, true, true, true, true, false, false, false, false] rfl rfl (by kernel_rfl) (by decide) (fun K1 hK => ?_)
  refine goes_ Try.func45 (by kernel_rfl) rfl #[.slice (some bd) 8 c0] (by rfl) rfl rfl (by (try simp only [List.map_toArray, List.map_cons, List.map_nil]); first | done | rfl) ?_
  refine (N1.out wD hHeld).mono ?_
  rintro e w1 ⟨rfl, hb⟩
  have HB1 := hHeld.trans (hb.mono hHeld.size)
  refine ⟨_, rfl, ?_⟩
  refine hK.out _ _ HB1 (fun hHeld => ?_)
  clear hK K1 hb
  refine one_ (i := 9) (N := some 32) #[true, true, true, true, true, true, true, true, true, true, false, false, false] rfl rfl (by kernel_rfl) (by decide) (fun K1 hK => ?_)
  refine goes_ Try.func45 (by kernel_rfl) rfl #[.slice (some (bd.add 10)) 2 (c0 - 10)] (by rfl) rfl rfl (by (try simp only [List.map_toArray, List.map_cons, List.map_nil]); first | done | rfl) ?_
  refine (N2.out w1 HB1).mono ?_
  rintro e w2 ⟨rfl, hb⟩
  have HB2 := HB1.trans (hb.mono HB1.size)
  refine ⟨_, rfl, ?_⟩
  refine hK.out _ _ HB2 (fun hHeld => ?_)
  clear hK K1 hb
  refine pure_ (i := 10) (N := some 33) (v := .int .i64 (N : Int)) (a' := ?_) #[true, true, true, true, true, true, true, true, true, true, true, false, false] rfl rfl (by kernel_rfl) (fun _ _ _ h => h) (Or.inl ⟨by rfl, ?_⟩) ?_ ?_
  · intro w'
    go_simp
    try rw [iN]
  rotate_left
  · simp only [Act.put, List.setIfInBounds_toArray, List.set_cons_zero, List.set_cons_succ]
    rfl
  refine pure_ (i := 11) (N := some 5) (v := ?_) (a' := ?_) #[true, true, true, true, true, true, true, true, true, true, true, true, false] rfl rfl (by kernel_rfl) (fun _ _ _ h => h) (Or.inl ⟨by rfl, ?_⟩) ?_ ?_
  rotate_left
  · intro w'
    go_simp
    with_reducible rfl
  rotate_left
  · simp only [Act.put, List.setIfInBounds_toArray, List.set_cons_zero, List.set_cons_succ]
    rfl
  refine pure_ (i := 12) (N := some 6) (v := ?_) (a' := ?_) #[true, true, true, true, true, true, true, true, true, true, true, true, true] rfl rfl (by kernel_rfl) (fun _ _ _ h => h) (Or.inl ⟨by rfl, ?_⟩) ?_ ?_
  rotate_left
  · intro w'
    go_simp
    with_reducible rfl
  rotate_left
  · simp only [Act.put, List.setIfInBounds_toArray, List.set_cons_zero, List.set_cons_succ]
    rfl
  refine done_ (by kernel_rfl) ?_
  have HBW := Aside0.mk HB2
  clear HB1 HB2 hHeld hdr
  by_cases hq0 : sq = 0
  · have f1 : (sq == 0) = true := by simp [hq0]
    go_wp2
    refine bodyPost_ret (results_list (rs := [.tmp 2, .tmp 3, .tmp 4]) rfl (by simp) (.tmp (.tmp (.tmp .nil)))) rfl ?_
    exact NO.out w2 HBW.out (fun n m h => h.sq (by rw [← HSQ.out]; exact hq0))
  have f1 : (sq == 0) = false := by simp [hq0]
  by_cases hn1 : N < 1
  · have f2 : decide ((N : Int) < 1) = true := decide_eq_true (by omega)
    go_wp2
    refine bodyPost_ret (results_list (rs := [.tmp 2, .tmp 3, .tmp 4]) rfl (by simp) (.tmp (.tmp (.tmp .nil)))) rfl ?_
    exact NO.out w2 HBW.out (fun n m h => by have h1 := h.cn; have h2 := h.n1; rw [HNN.out] at h1; omega)
  have f2 : decide ((N : Int) < 1) = false := decide_eq_false (by omega)
  by_cases hn2 : 64 < N
  · have f3 : decide ((64 : Int) < N) = true := decide_eq_true (by omega)
    go_wp2
    refine bodyPost_ret (results_list (rs := [.tmp 2, .tmp 3, .tmp 4]) rfl (by simp) (.tmp (.tmp (.tmp .nil)))) rfl ?_
    exact NO.out w2 HBW.out (fun n m h => by have h1 := h.cn; have h2 := h.n64; rw [HNN.out] at h1; omega)
  have f3 : decide ((64 : Int) < N) = false := decide_eq_false (by omega)
  by_cases hn3 : n < N
  · have f4 : decide ((n : Int) < N) = true := decide_eq_true (by omega)
    go_wp2
    refine bodyPost_ret (results_list (rs := [.tmp 2, .tmp 3, .tmp 4]) rfl (by simp) (.tmp (.tmp (.tmp .nil)))) rfl ?_
    exact NO.out w2 HBW.out (fun n' m h => by have h1 := h.cn; have h2 := h.nl; rw [HNN.out] at h1; rw [HL.out] at h2; omega)
  have f4 : decide ((n : Int) < N) = false := decide_eq_false (by omega)
  have INF := Aside0.mk info5
  have INF8 := Aside0.mk info58'
  have HQ0 := Aside0.mk hq0
  have hNc : N ≤ c := by omega
  go_wp2_with fail
  go_loopw [7, 54] (fun y x wr => ∃ (k : Nat), k ≤ N ∧ x = .int .i64 k ∧ Aside0 (Kd.R byteK 5 wr w2.heap.size tt y (logB l k)) ∧ Aside0 (Below w2.heap.size w2 wr) ∧ Aside0 (∀ i : Nat, i < k → partP (l.getD i []) sq i N)) (fun _ x _ => N - (intOf x).toNat)
  case atStart => exact ⟨0, Nat.zero_le _, rfl, ⟨Kd.R_nil _ _ _ _ _⟩, ⟨Below.refl _ _⟩, ⟨fun i h => absurd h (Nat.not_lt_zero _)⟩⟩
  case round =>
    obtain ⟨k, hk, rfl, HRk, HBk, HPk⟩ := hrel
    by_cases hlt : k < N
    · have g1 : decide ((k : Int) < N) = true := decide_eq_true (by omega)
      obtain ⟨ad', B, cB, hA, cel, hle, hCB⟩ := row_b HC.out k (by omega)
      injection hA with hA
      subst hA
      have hoks : BytesOk (l.getD k []) := getD_ok HBO.out k
      have HSU := Aside0.mk (logB_succ (show k < l.length by rw [HL.out]; omega))
      have HBW2 := Aside0.mk (HBW.out.trans (HBk.out.mono HBW.out.size))
      replace cel := (HBW2.out.cell (World.block_lt_of_cell? W _ cel)).trans cel
      obtain ⟨s, hs⟩ : ∃ s, s = l.getD k [] := ⟨_, rfl⟩
      rw [← hs] at cel hle hCB hoks HSU
      obtain ⟨r, hr⟩ : ∃ r : Bool, r = true ↔ partP s sq (k : Int) (N : Int) := by
        rcases Classical.em (partP s sq (k : Int) (N : Int)) with h | h
        · exact ⟨true, ⟨fun _ => h, fun _ => rfl⟩⟩
        · exact ⟨false, ⟨fun e => (by cases e), fun e => absurd e h⟩⟩
      have HPC := Aside0.mk (part_c (seq := sq) (i := k) (n := N) hoks (Kd.C_below hCB HBW2.out) hle (by omega) (by omega) r hr)
      have HRR := Aside0.mk hr
      have HS := Aside0.mk hs
      have HCB := Aside0.mk hCB
      have HLE := Aside0.mk hle
      clear hr hs hCB hoks hle
      obtain ⟨m, hm⟩ : ∃ m, m = s.length := ⟨_, rfl⟩
      rw [← hm] at cel HPC HCB HLE
      have HM := Aside0.mk hm
      clear hm
      cases r with
      | false =>
        go_wp2_with (go_at_call 66; refine HPC.out.mono ?_; rintro e w3 ⟨rfl, h1⟩; have HB3 := Aside0.mk (HBW2.out.trans (h1.mono HBW2.out.size)); clear h1)
        refine bodyPost_ret (results_list (rs := [.tmp 2, .tmp 3, .tmp 4]) rfl (by simp) (.tmp (.tmp (.tmp .nil)))) rfl ?_
        exact NO.out w3 HB3.out (fun n' m' h => by
          have h1 := h.cn
          rw [HNN.out] at h1
          obtain rfl : N = n' := by omega
          have h2 := h.part k hlt
          rw [← HS.out, ← HSQ.out] at h2
          exact absurd (HRR.out.2 h2) (by decide))
      | true =>
        have hp := HRR.out.1 rfl
        obtain rfl : m = 512 := by rw [HM.out]; exact hp.1
        obtain ⟨A6, c6, hv⟩ := Kd.R_slice HRk.out
        subst hv
        obtain ⟨m6, hm6⟩ : ∃ m6, m6 = (logB l k).length := ⟨_, rfl⟩
        have HRk' := Aside0.mk (show Kd.R byteK 5 wr w2.heap.size tt (.slice A6 m6 c6) (logB l k) by rw [hm6]; exact HRk.out)
        have hll := logB_len k (show k ≤ l.length by rw [HL.out]; omega) (fun i hi => (HPk.out i hi).1)
        rw [← hm6]
        have HM6 := Aside0.mk (show (logB l k).length ≤ 100000 by omega)
        clear HRk hm6 hll
        have HP1 := Aside0.mk hp
        clear hp
        obtain ⟨Ap, hAp⟩ : ∃ Ap, Ap = if cB = 12 then B else B.map (·.add (12 * 1)) := ⟨_, rfl⟩
        have HAP := Aside0.mk hAp
        clear hAp
        go_wp2_with (first
          | (go_at_call 66; refine HPC.out.mono ?_; rintro e w3 ⟨rfl, h1⟩; have HR3 := Aside0.mk (Kd.R_below HRk'.out h1); have HB3 := Aside0.mk (HBk.out.trans (h1.mono HBk.out.size)); clear h1)
          | ((with_reducible refine gate_dst (N := 67) rfl ?_); refine Kd.event_run rfl (ex_lo (m := 12) und56 size5' rfl rfl rfl (by decide) HAP.out) ?_)
          | ((with_reducible refine gate_dst (N := 68) rfl ?_); at_builtin; refine Kd.R_append_rows byteK (w0 := w2) w2.heap.size rfl (.tmp 65) (.tmp 67) 56 5 (.int .u8 0) 1 rfl Try.underlying56 INF.out rfl (by decide) (by decide) (.slice A6 m6 c6) (logB l k) (s.drop 12) Ap 500 (cB - 12) tt (fun _ => False) rfl rfl HR3.out (dropC (n := 512) (m := 12) (c := cB) (Kd.C_below HCB.out (HBW.out.trans (HB3.out.mono HBW.out.size))) (by decide) HLE.out rfl HAP.out) (fun _ _ h => h) (fun _ h => h.elim) (fun _ _ => trivial) HB3.out HB3.out.size ?hl ?_; (case hl => have := HM6.out; omega); intro v4 w4 ho hb hG hat; rw [← HSU.out] at ho; have HR4 := Aside0.mk ho; have HB4 := Aside0.mk hb; clear ho hb hG hat))
        go_roundw
        case rel =>
          refine ⟨_, _, _, _, _, _, _, _, _, _, _, _, _, _, _, _, _, _, _, _, _, _, ?_, rfl⟩
          exact ⟨k + 1, by omega, by go_num, HR4, HB4, ⟨fun i hi => by
            by_cases e : i = k
            · subst e; rw [← HS.out]; exact HP1.out
            · exact HPk.out i (by omega)⟩⟩
        case measure =>
          show N - (intOf (Value.int .i64 ((k : Int) + 1))).toNat < N - (intOf (Value.int .i64 (k : Int))).toNat
          simp [intOf]; omega
    · obtain rfl : k = N := by omega
      have g1 : decide ((k : Int) < k) = false := decide_eq_false (by omega)
      obtain ⟨A6, c6, hv⟩ := Kd.R_slice HRk.out
      subst hv
      have hll := logB_len k (show k ≤ l.length by rw [HL.out]; omega) (fun i hi => (HPk.out i hi).1)
      have hbok := logB_ok HBO.out k
      obtain ⟨bb, hbb⟩ : ∃ bb, bb = logB l k := ⟨_, rfl⟩
      rw [← hbb] at hll hbok HRk ⊢
      have HBB := Aside0.mk hbb
      have HCb := Aside0.mk (Kd.R_reads' HRk.out)
      have hc6 := HCb.out.2.1
      obtain ⟨m6, hm6⟩ : ∃ m6, m6 = bb.length := ⟨_, rfl⟩
      have HC6 := Aside0.mk (show Kd.C byteK wr A6 m6 bb by rw [hm6]; exact HCb.out.2.2)
      rw [← hm6] at hc6 hll ⊢
      have HM6 := Aside0.mk hm6
      have HOK := Aside0.mk hbok
      clear hbb HCb hm6 HRk hbok
      have N3 := Aside0.mk (fun (w' : World) (hB : Below wr.heap.size wr w') => number_c (n := 4) (c := c6) (A := A6) (l := bb.take 4) (by rw [List.length_take, ← HM6.out]; omega) (by rw [List.length_take]; omega) (HOK.out.take 4) (takeC (Kd.C_below HC6.out hB) (by omega)) (by omega))
      have b3 := numB_bound (HOK.out.take 4)
      rw [List.length_take, ← HM6.out, show min 4 m6 = 4 by omega] at b3
      obtain ⟨M, hM⟩ : ∃ M : Nat, M = (numB (bb.take 4)).toNat := ⟨_, rfl⟩
      have hM' : numB (bb.take 4) = (M : Int) := by omega
      rw [hM'] at N3
      have hMb : M < 4294967296 := by have := b3.2; rw [hM'] at this; have h : (256 : Int) ^ 4 = 4294967296 := by decide
                                      omega
      have HMM := Aside0.mk (show manyB (logB l k) = (M : Int) by rw [← HBB.out]; exact hM')
      clear b3 hM hM'
      have iM : IntKind.i64.wrap (M : Int) = (M : Int) := by rw [IntKind.wrap_i64]; omega
      have HX := Aside0.mk (And.intro hll hc6)
      have HBW2 := Aside0.mk (HBW.out.trans (HBk.out.mono HBW.out.size))
      by_cases hM64 : 64 < M
      · have g2 : decide ((64 : Int) < M) = true := decide_eq_true (by omega)
        go_wp2_with (first
          | ((with_reducible refine gate_dst (N := 71) rfl ?_); refine Kd.event_run rfl (ex_hi (m := 4) und56 size5' rfl rfl rfl (by have := HX.out; omega)) ?_)
          | (go_at_call 45; refine (N3.out wr (Below.refl _ _)).mono ?_; rintro e w5 ⟨rfl, h1⟩; have HB5 := Aside0.mk (HBW2.out.trans (h1.mono HBW2.out.size)); clear h1))
        refine bodyPost_ret (results_list (rs := [.tmp 2, .tmp 3, .tmp 4]) rfl (by simp) (.tmp (.tmp (.tmp .nil)))) rfl ?_
        exact NO.out w5 HB5.out (fun n' m' h => by
          have h1 := h.cn
          rw [HNN.out] at h1
          obtain rfl : k = n' := by omega
          have h2 := h.mn
          rw [HMM.out] at h2
          have := h.m64
          omega)
      have g2 : decide ((64 : Int) < M) = false := decide_eq_false (by omega)
      have HSE := Aside0.mk (fun (w : World) => sectors_c (w := w) M (by omega))
      by_cases hsN : secsN M = k
      case neg =>
        obtain ⟨sm, hsm⟩ : ∃ sm, sm = secsN M := ⟨_, rfl⟩
        rw [← hsm] at HSE hsN
        have g3 : ((sm : Int) != k) = true := by simp; omega
        have HSM := Aside0.mk hsm
        clear hsm
        go_wp2_with (first
          | ((with_reducible refine gate_dst (N := 71) rfl ?_); refine Kd.event_run rfl (ex_hi (m := 4) und56 size5' rfl rfl rfl (by have := HX.out; omega)) ?_)
          | (go_at_call 64; refine (HSE.out w5).mono ?_; rintro e w6 ⟨rfl, h1⟩; have HB6 := Aside0.mk (HB5.out.trans (h1.mono HB5.out.size)); clear h1)
          | (go_at_call 45; refine (N3.out wr (Below.refl _ _)).mono ?_; rintro e w5 ⟨rfl, h1⟩; have HB5 := Aside0.mk (HBW2.out.trans (h1.mono HBW2.out.size)); clear h1))
        refine bodyPost_ret (results_list (rs := [.tmp 2, .tmp 3, .tmp 4]) rfl (by simp) (.tmp (.tmp (.tmp .nil)))) rfl ?_
        exact NO.out w6 HB6.out (fun n' m' h => by
          have h1 := h.cn
          rw [HNN.out] at h1
          obtain rfl : k = n' := by omega
          have h2 := h.mn
          rw [HMM.out] at h2
          obtain rfl : M = m' := by omega
          have := h.secs
          have h3 := HSM.out
          omega)
      rw [hsN] at HSE
      have g3 : ((k : Int) != k) = false := by simp
      have HSN := Aside0.mk hsN
      have hMN : 4 + 516 * M ≤ m6 ∧ M ≤ 64 := by rw [hll, ← hsN]; unfold secsN; omega
      clear hsN
      obtain ⟨Aq, hAq⟩ : ∃ Aq, Aq = if c6 = 4 then A6 else A6.map (·.add (4 * 1)) := ⟨_, rfl⟩
      have HAQ := Aside0.mk hAq
      clear hAq
      go_wp2_with (first
        | ((with_reducible refine gate_dst (N := 71) rfl ?_); refine Kd.event_run rfl (ex_hi (m := 4) und56 size5' rfl rfl rfl (by have := HX.out; omega)) ?_)
        | ((with_reducible refine gate_dst (N := 83) rfl ?_); refine Kd.event_run rfl (ex_lo (m := 4) und56 size5' rfl rfl rfl (by have := HX.out; omega) HAQ.out) ?_)
        | (go_at_call 64; refine (HSE.out w5).mono ?_; rintro e w6 ⟨rfl, h1⟩; have HB6 := Aside0.mk (HB5.out.trans (h1.mono HB5.out.size)); clear h1)
        | (go_at_call 45; refine (N3.out wr (Below.refl _ _)).mono ?_; rintro e w5 ⟨rfl, h1⟩; have HB5 := Aside0.mk (h1); clear h1))
      have HC7 := Aside0.mk (dropC (n := m6) (m := 4) (c := c6) (Kd.C_below HC6.out HB6.out) (by omega) hc6 rfl HAQ.out)
      have HBZ := Aside0.mk (HBW2.out.trans (HB6.out.mono HBW2.out.size))
      obtain ⟨m7, hm7⟩ : ∃ m7, m7 = m6 - 4 := ⟨_, rfl⟩
      have hc7 : m6 - 4 ≤ c6 - 4 := by omega
      rw [← hm7] at HC7
      have HM7 := Aside0.mk hm7
      have HHH := Aside0.mk (And.intro hMN (And.intro hll hc6))
      clear hm7
      go_loopw [7, 11] (fun y z wr => ∃ (j m c co : Nat) (A Ao : Option Addr), j ≤ M ∧ y = .slice A m c ∧ z = .slice Ao j co ∧ m ≤ 100000 ∧ m ≤ c ∧ Aside0 (m = m6 - (4 + 516 * j)) ∧ Aside0 (Kd.C byteK w6 A m (bb.drop (4 + 516 * j))) ∧ Aside0 (Kd.R k58 58 wr w6.heap.size tt (.slice Ao j co) ((List.range j).map (pageAt bb))) ∧ Aside0 (∀ i, i < j → noAt bb i ≤ 2147483647) ∧ Aside0 (Below w6.heap.size w6 wr)) (fun y z _ => M - (match z with | .slice _ q _ => q | _ => 0))
      case atStart => exact ⟨0, m6 - 4, c6 - 4, 0, Aq, none, Nat.zero_le _, by rw [hll], rfl, by omega, hc7, ⟨rfl⟩, ⟨by have h := HC7.out; rw [HM7.out] at h; exact h⟩, ⟨Kd.R_nil _ _ _ _ _⟩, ⟨fun i h => absurd h (Nat.not_lt_zero _)⟩, ⟨Below.refl _ _⟩⟩
      case round =>
        obtain ⟨j, m, c', co, A', Ao, hj, rfl, rfl, hm1, hmc, HMI, HCi, HRi, HNi, HB8⟩ := hrel
        by_cases hlt2 : j < M
        · have hm516 : 516 ≤ m := by have h1 := HMI.out; have h2 := HHH.out.1.1; omega
          obtain ⟨am, hA, _⟩ := HCi.out.2.2 (show 0 < m by omega)
          subst hA
          have k1 : decide ((j : Int) < M) = true := decide_eq_true (by omega)
          have N4 := Aside0.mk (fun (w' : World) (hB : Below w6.heap.size w6 w') => number_c (n := 4) (c := c') (A := some am) (l := (bb.drop (4 + 516 * j)).take 4) (by rw [List.length_take, HCi.out.1]; omega) (by rw [List.length_take]; omega) ((HOK.out.drop _).take 4) (takeC (Kd.C_below HCi.out hB) (by omega)) (by omega))
          have b4 := numB_bound ((HOK.out.drop (4 + 516 * j)).take 4)
          rw [List.length_take, HCi.out.1, show min 4 m = 4 by omega] at b4
          have e4 : numB ((bb.drop (4 + 516 * j)).take 4) = noAt bb j := rfl
          rw [e4] at N4 b4
          obtain ⟨nx, hnx⟩ : ∃ nx, nx = noAt bb j := ⟨_, rfl⟩
          rw [← hnx] at N4 b4
          have HNX := Aside0.mk hnx
          have HHI := Aside0.mk (And.intro hm516 hmc)
          have hb4 : 0 ≤ nx ∧ nx < 4294967296 := by have h : (256 : Int) ^ 4 = 4294967296 := by decide
                                                    omega
          have iX : IntKind.i64.wrap nx = nx := by rw [IntKind.wrap_i64]; omega
          clear e4 hnx b4
          by_cases hbig : 2147483647 < nx
          · have k2 : decide (2147483647 < nx) = true := decide_eq_true hbig
            go_wp2_with (first
              | ((with_reducible refine gate_dst (N := 92) rfl ?_); refine Kd.event_run rfl (ex_hi (m := 4) und56 size5' rfl rfl rfl (by have := HHI.out; omega)) ?_)
              | (go_at_call 45; refine (N4.out wr HB8.out).mono ?_; rintro e w9 ⟨rfl, h1⟩; have HB9 := Aside0.mk (HB8.out.trans (h1.mono HB8.out.size)); clear h1))
            refine bodyPost_ret (results_list (rs := [.tmp 2, .tmp 3, .tmp 4]) rfl (by simp) (.tmp (.tmp (.tmp .nil)))) rfl ?_
            exact NO.out w9 (HBZ.out.trans (HB9.out.mono HBZ.out.size)) (fun n' m' h => by
              have h1 := h.cn
              rw [HNN.out] at h1
              obtain rfl : k = n' := by omega
              have h2 := h.mn
              rw [HMM.out] at h2
              obtain rfl : M = m' := by omega
              have h3 := h.nos j hlt2
              rw [← HBB.out, ← HNX.out] at h3
              omega)
          have k2 : decide (2147483647 < nx) = false := decide_eq_false hbig
          obtain ⟨Am, hAm⟩ : ∃ Am, Am = if c' = 4 then some am else (some am).map (·.add (4 * 1)) := ⟨_, rfl⟩
          obtain ⟨An, hAn⟩ : ∃ An, An = if c' = 516 then some am else (some am).map (·.add (516 * 1)) := ⟨_, rfl⟩
          have HAM := Aside0.mk hAm
          have HAN := Aside0.mk hAn
          have HCL := Aside0.mk (fun (w' : World) (hB : Below w6.heap.size w6 w') => by
            have h := dropC (n := 516) (m := 4) (c := c') (takeC (Kd.C_below HCi.out hB) hm516) (by decide) (by omega) rfl hAm
            have hl : (((bb.drop (4 + 516 * j)).take 516).drop 4).length = 512 := by rw [List.length_drop, List.length_take, HCi.out.1]; omega
            have h2 := clone_calls Am (c' - 4) (((bb.drop (4 + 516 * j)).take 516).drop 4) w' (by rw [hl]; exact h) (by omega) (by omega) (by omega)
            rw [hl] at h2
            exact h2)
          obtain ⟨pg, hpg⟩ : ∃ pg, pg = ((bb.drop (4 + 516 * j)).take 516).drop 4 := ⟨_, rfl⟩
          have hpl : pg.length = 512 := by rw [hpg, List.length_drop, List.length_take, HCi.out.1]; omega
          rw [← hpg] at HCL
          have HPG := Aside0.mk hpg
          have HPL := Aside0.mk hpl
          clear hAm hAn hpg hpl hbig
          go_wp2_with (first
            | ((with_reducible refine gate_dst (N := 92) rfl ?_); refine Kd.event_run rfl (ex_hi (m := 4) und56 size5' rfl rfl rfl (by have := HHI.out; omega)) ?_)
            | ((with_reducible refine gate_dst (N := 100) rfl ?_); refine Kd.event_run rfl (ex_mid (m := 4) (h := 516) und56 size5' rfl rfl rfl rfl (by decide) (by have := HHI.out; omega) HAM.out) ?_)
            | ((with_reducible refine gate_dst (N := 90) rfl ?_); refine Kd.event_run rfl (ex_lo (m := 516) und56 size5' rfl rfl rfl (by have := HHI.out; omega) HAN.out) ?_)
            | (go_at_call 45; refine (N4.out wr HB8.out).mono ?_; rintro e w9 ⟨rfl, h1⟩; have HB9 := Aside0.mk (HB8.out.trans (h1.mono HB8.out.size)); have HR9 := Aside0.mk (Kd.R_below HRi.out h1); clear h1)
            | (go_at_call 56; refine (HCL.out w9 HB9.out).mono ?_; rintro e w10 ⟨v10, rfl, hr, hb⟩; have HR10 := Aside0.mk (Kd.R_below HR9.out hb); have HV10 := Aside0.mk (Kd.R_mono (ok' := fun k => w9.heap.size ≤ k) (Kd.R_bound hr) (fun k hk => hk.2.1)); obtain ⟨A10, c10, e10⟩ := Kd.R_slice hr; rw [HPL.out] at e10; subst e10; have HB10 := Aside0.mk (HB9.out.trans (hb.mono HB9.out.size)); clear hr hb)
            | ((with_reducible refine gate_dst (N := 104) rfl ?_); at_builtin; refine Kd.R_append k58 (w0 := w6) (W := w10) w6.heap.size rfl (.tmp 96) (.tmp 103) 23 58 (.agg #[.int .i64 0, .slice none 0 0]) 32 rfl Try.underlying23 INF8.out rfl (by decide) (by decide) (.slice Ao j co) ((List.range j).map (pageAt bb)) ⟨nx, pg⟩ [.int .i64 nx, .slice A10 512 c10] tt (fun k => w9.heap.size ≤ k) rfl rfl (k58_mkM w10 w6.heap.size (fun k => w9.heap.size ≤ k) ⟨nx, pg⟩ (Kd.R_lower HV10.out HB9.out.size)) (fun k hk => ⟨trivial, fun e => Nat.not_lt.2 hk (Kd.R_lt HR9.out k e.symm)⟩) (fun _ _ => trivial) HR10.out HB10.out HB10.out.size ?hl ?_; (case hl => simp; omega); intro v11 w11 ho hb hG hat; have HO11 := Aside0.mk ho; have HB11 := Aside0.mk hb; clear ho hb hG hat))
          have hnp : (⟨nx, pg⟩ : S58) = pageAt bb j := by unfold pageAt; rw [← HNX.out, ← HPG.out]
          have hro : Kd.R k58 58 w11 w6.heap.size tt v11 ((List.range (j + 1)).map (pageAt bb)) := by
            have h := HO11.out
            rw [hnp] at h
            rw [List.range_succ, List.map_append, List.map_cons, List.map_nil]
            exact h
          obtain ⟨A11, c11, e11⟩ := Kd.R_slice hro
          rw [List.length_map, List.length_range] at e11
          subst e11
          go_roundw
          case rel =>
            exact ⟨j + 1, m - 516, c' - 516, c11, An, A11, by omega, rfl, rfl, by omega, by omega, ⟨by have := HMI.out; omega⟩, ⟨by have h := dropC HCi.out hm516 hmc rfl HAN.out; rw [List.drop_drop] at h; rw [show 4 + 516 * (j + 1) = 4 + 516 * j + 516 by omega]; exact h⟩, ⟨hro⟩, ⟨fun i hi => by
              by_cases e : i = j
              · subst e; rw [← HNX.out]; exact Int.not_lt.1 (of_decide_eq_false k2)
              · exact HNi.out i (by omega)⟩, HB11⟩
          case measure =>
            show M - (j + 1) < M - j
            omega
        · obtain rfl : j = M := by omega
          have k1 : decide ((j : Int) < j) = false := decide_eq_false (by omega)
          go_wp2
          refine bodyPost_ret (results_list (rs := [.tmp 2, .tmp 3, .tmp 4]) rfl (by simp) (.tmp (.tmp (.tmp .nil)))) rfl ?_
          refine ⟨sq, outS l k j, true, .slice Ao j co, rfl, .inl ⟨rfl, HSQ.out, k, j, ⟨by rw [HL.out]; omega, by rw [← HS0.out]; exact HN0.out.symm, fun e => HQ0.out (HSQ.out.trans e), HNN.out, by omega, by omega, by rw [HL.out]; omega, fun i hi => by rw [← HSQ.out]; exact HPk.out i hi, HMM.out, HHH.out.1.2, HSN.out, fun i hi => by rw [← HBB.out]; exact HNi.out i hi⟩, rfl⟩, ?_, HBZ.out.trans (HB8.out.mono HBZ.out.size)⟩
          unfold outS
          rw [← HBB.out]
          exact Kd.R_lower HRi.out HBZ.out.size
end Go.Proofs.Ytmghgghheebnjaa.Dis
