/- Wal: Open, walked by hand (written by mkwalj.py). -/
import Derived.Test.YtmghgghheebnjaaWalI
namespace Go.Proofs.Ytmghgghheebnjaa.Dis
open Go.RowKit Go.Proofs.YtmghgghheebnjaaW.PrintWords Go.Proofs.YtmghgghheebnjaaW.PrintLast Go.Proofs.YtmghgghheebnjaaW.PrintMore Go.Maps Go.Proofs.Ytmghgghheebnjaa.PWalRecords
set_option linter.unusedVariables false
set_option linter.unusedSimpArgs false
/-- The disk behind reads of the first sectors; what was read; the greatest number. -/
def rdTo (d : D) : Nat → D
  | 0 => d
  | k + 1 => (readD (rdTo d k) (k : Int)).1
def rdRow (d : D) (k : Nat) : List Int := (readD (rdTo d k) (k : Int)).2.1
def rdErr (d : D) (k : Nat) : Int := (readD (rdTo d k) (k : Int)).2.2
def logOf (d : D) (k : Nat) : List (List Int) := (List.range k).map (rdRow d)
def seqTo (d : D) : Nat → Int
  | 0 => 0
  | k + 1 => if seqTo d k < numB ((rdRow d k).take 8) then numB ((rdRow d k).take 8) else seqTo d k
def rdAll (d : D) (k : Nat) : Nat → D × Int
  | 0 => (rdTo d k, 0)
  | f + 1 => if rdErr d k = 0 then rdAll d (k + 1) f else (rdTo d (k + 1), rdErr d k)
open Classical in
noncomputable def pagesOf (l : List (List Int)) : List S58 := if ScanOk l (cntS l).toNat (manyB (logB l (cntS l).toNat)).toNat then outS l (cntS l).toNat (manyB (logB l (cntS l).toNat)).toNat else []
theorem scanR_out {l : List (List Int)} {sq : Int} {out : List S58} {ok : Bool} (h : ScanR l sq out ok) : out = pagesOf l ∧ (ok = false → out = []) := by
  rcases h with ⟨_, _, n, m, h, rfl⟩ | ⟨_, _, rfl, h⟩
  · have e1 : (cntS l).toNat = n := by rw [h.cn]; omega
    have e2 : (manyB (logB l n)).toNat = m := by rw [h.mn]; omega
    unfold pagesOf
    rw [e1, e2, if_pos h]
    exact ⟨rfl, fun e => by simp_all⟩
  · unfold pagesOf
    rw [if_neg (h _ _)]
    exact ⟨rfl, fun _ => rfl⟩
noncomputable def openD (d : D) : D × Int × Int :=
  if d.n ≤ 64 then (d, 0, 8) else if (rdAll d 0 64).2 = 0 then
    ((writesD (rdAll d 0 64).1 ((pagesOf (logOf d 64)).filter (fun p => thereB d.n p.f0))).1, seqTo d 64, (writesD (rdAll d 0 64).1 ((pagesOf (logOf d 64)).filter (fun p => thereB d.n p.f0))).2)
  else ((rdAll d 0 64).1, 0, (rdAll d 0 64).2)
theorem callD_n (d : D) : (callD d).1.n = d.n := by unfold callD; split <;> rfl
theorem callD_fast (d : D) : (callD d).1.fast = d.fast := by unfold callD; split <;> rfl
theorem callD_since (d : D) : (callD d).1.since = d.since := by unfold callD; split <;> rfl
theorem readD_1 (d : D) (i : Int) : (readD d i).1 = (callD d).1 := by unfold readD; split <;> (try split) <;> rfl
theorem rdTo_n (d : D) (k : Nat) : (rdTo d k).n = d.n ∧ (rdTo d k).fast = d.fast ∧ (rdTo d k).since = d.since ∧ (rdTo d k).cnt = d.cnt := by
  induction k with
  | zero => exact ⟨rfl, rfl, rfl, rfl⟩
  | succ k ih =>
    unfold rdTo
    rw [readD_1, callD_n, callD_fast, callD_since, callD_cnt]
    exact ih
theorem readD_sec {base g : Nat} {w : World} {d : D} (h : IsD base w g d) (i : Int) (he : (readD d i).2.2 = 0) : Sec (readD d i).2.1 := by
  obtain ⟨hok, b, v, m, hb, _, _, _, hM, _⟩ := h
  unfold readD at he ⊢
  by_cases h1 : (callD d).2 ≠ 0
  · rw [if_pos h1] at he; exact absurd he h1
  · rw [if_neg h1] at he ⊢
    by_cases h2 : thereD (callD d).1 i ≠ 0
    · rw [if_pos h2] at he; exact absurd he h2
    · rw [if_neg h2]
      show Sec (readF (callD d).1.since i ((callD d).1.fast i))
      rw [callD_since, callD_fast]
      unfold readF
      split
      · rename_i x hx
        have := List.mem_of_find?_eq_some hx
        exact (hok.at_ x (List.mem_reverse.1 this)).2.2
      · exact hM.1 i
theorem box2 (W : World) (o3 o5 : Obj) : ((W.alloc o3).alloc o5).heap[W.heap.size]? = some o3 ∧ ((W.alloc o3).alloc o5).heap[W.heap.size + 1]? = some o5 ∧ Below W.heap.size W ((W.alloc o3).alloc o5) := by
  have s1 : (W.alloc o3).heap.size = W.heap.size + 1 := by simp
  have b1 : Below W.heap.size W (W.alloc o3) := below_alloc (Below.refl _ _) _
  refine ⟨blk_below (blk_new W o3) (below_alloc (Below.refl _ _) _), ?_, b1.alloc b1.size _⟩
  have := blk_new (W.alloc o3) o5
  rw [s1] at this
  exact this
theorem seqTo_bound {d : D} (h : ∀ k, k < 64 → rdErr d k = 0 → Sec (rdRow d k)) : ∀ k, k ≤ 64 → (∀ i, i < k → rdErr d i = 0) → 0 ≤ seqTo d k ∧ seqTo d k < 18446744073709551616 := by
  intro k
  induction k with
  | zero => intro _ _; exact ⟨by simp [seqTo], by simp [seqTo]⟩
  | succ k ih =>
    intro hk he
    have h1 := ih (by omega) (fun i hi => he i (by omega))
    have hs := h k (by omega) (he k (by omega))
    have hb : BytesOk ((rdRow d k).take 8) := BytesOk.take hs.2 8
    have h2 := numB_bound hb
    rw [List.length_take, hs.1] at h2
    have h3 : (256 : Int) ^ (min 8 512) = 18446744073709551616 := by decide
    unfold seqTo
    split <;> omega
theorem page_ok {l : List (List Int)} {n m : Nat} (h : ScanOk l n m) (hb : ∀ s ∈ l, BytesOk s) : ∀ p ∈ outS l n m, BytesOk p.f1 ∧ 0 ≤ p.f0 ∧ p.f0 ≤ 2147483647 ∧ p.f1.length = 512 := by
  intro p hp
  unfold outS at hp
  obtain ⟨j, hj, rfl⟩ := List.mem_map.1 hp
  rw [List.mem_range] at hj
  have hbk := logB_ok hb n
  have h1 := numB_bound ((hbk.drop (4 + 516 * j)).take 4)
  have hl := logB_len n h.nl (fun i hi => (h.part i hi).1)
  have hs := h.secs
  unfold secsN at hs
  refine ⟨((hbk.drop _).take _).drop _, h1.1, h.nos j hj, ?_⟩
  show ((((logB l n).drop (4 + 516 * j)).take 516).drop 4).length = 512
  rw [List.length_drop, List.length_take, List.length_drop, hl]
  omega
theorem writesD_nil (d : D) : writesD d [] = (d, 0) := rfl
theorem IsD.grown {base g : Nat} {w w' : World} {d : D} {row : Option Nat} (h : IsD base w g d) (hg : w.grownBy w' row) (ht : ∀ k, row = some k → ∃ cs t, w.heap[k]? = some (.cells cs t (0, 0)) ∧ t ≠ 88 ∧ t ≠ 106) : IsD base w' g d := by
  obtain ⟨hok, b, v, m, hb, hgb, hbb, hm, hM, hR⟩ := h
  have hbt : ∃ es c, w.heap[b]? = some (.map es c) := by obtain ⟨_, D, _, ⟨es, c, h, _⟩, _⟩ := hM; exact ⟨es, c, h⟩
  obtain ⟨es, c, hbt⟩ := hbt
  have n1 : some g ≠ row := fun e => by
    obtain ⟨cs, t, h1, h2, _⟩ := ht g e.symm
    rw [hb] at h1; injection h1 with h1; injection h1 with _ h3; exact h2 h3.symm
  have n2 : some b ≠ row := fun e => by
    obtain ⟨cs, t, h1, _⟩ := ht b e.symm
    rw [hbt] at h1; injection h1 with h1; cases h1
  refine ⟨hok, b, v, m, (hg.block g (blk_lt hb) n1).trans hb, hgb, hbb, hm, hM.kept hg n2, ?_⟩
  refine Kd.R_mono (Kd.R_step (Kd.R_bound hR) (fun k hk hlt => hg.block k hlt (fun e => ?_))) (fun _ _ => trivial)
  obtain ⟨_, _, _, q, hq, cells, hc⟩ := hk
  obtain ⟨cs, t, h1, _, h2⟩ := ht k e.symm
  have hq' : q = 106 := by simpa [wrK] using hq
  rw [hc] at h1; injection h1 with h1; injection h1 with _ h3; exact h2 (by rw [← h3, hq'])
theorem grown_set (w : World) (g j : Nat) (u : Value) : w.grownBy (w.setCell ⟨g, j, none⟩ u) (some g) := ⟨rfl, rfl, rfl, by simp [World.setCell], fun i _ hi => Below.heap_setCell _ _ _ _ (fun e => hi (by rw [e]))⟩
theorem row_typed {α : Type} {dd : Kd α} {e base : Nat} {w : World} {ok : Nat → Prop} {v : Value} {xs : List α} (h : dd.R e w base ok v xs) (h1 : e ≠ 88) (h2 : e ≠ 106) : ∀ k, v.ownBlock = some k → ∃ cs t, w.heap[k]? = some (.cells cs t (0, 0)) ∧ t ≠ 88 ∧ t ≠ 106 := fun k hk => by
  obtain ⟨inner, hown⟩ := Kd.R_own h
  obtain ⟨cs, hc⟩ := own_typed hown k hk
  exact ⟨cs, e, hc, h1, h2⟩
theorem KeepD.far {w w' w2 : World} {B : Nat} (h : KeepD w w') (hb : Below B w' w2) (hB : w.heap.size ≤ B) : KeepD w w2 :=
  ⟨Nat.le_trans h.1 hb.size, fun i cs t fr hi h1 h2 => (hb.block i (Nat.lt_of_lt_of_le (blk_lt hi) hB)).trans (h.2 i cs t fr hi h1 h2)⟩
theorem IsWl.put {w : World} {gw g : Nat} {s s1 : Int} (h : IsWl w gw g s) : IsWl (w.setCell ⟨gw, 1, none⟩ (.int .u64 s1)) gw g s1 := by
  have := blk_set h 1 (Value.int .u64 s1)
  unfold IsWl
  simpa using this
attribute [local go_sem] max2_int min2_int max_two min_two max_three min_three max_four min_four
set_option maxHeartbeats 16000000 in
set_option maxRecDepth 100000 in
theorem open_c (base g : Nat) (d : D) (w W : World) (h : IsD base W g d) (hB : Below base w W) (hbase : base ≤ w.heap.size) (hcnt : d.cnt + 100 < 1000000) :
    Calls Try.prog 17 #[.pointer (some ⟨g, 0, none⟩)] W fun e w' => ∃ v, e = .returned (.tuple #[v, .int .i64 (openD d).2.2]) ∧ IsD base w' g (openD d).1 ∧ Below base w w' ∧ KeepD W w' ∧
      ((openD d).2.2 ≠ 0 → v = .pointer none) ∧ ((openD d).2.2 = 0 → ∃ gw, v = .pointer (some ⟨gw, 0, none⟩) ∧ W.heap.size ≤ gw ∧ IsWl w' gw g (openD d).2.1) := by
  have HS := Aside0.mk (sectors_calls base g d W h)
  have HD := Aside0.mk h
  have HB := Aside0.mk hB
  have HC := Aside0.mk (And.intro hbase hcnt)
  have hn0 := h.1.n0
  have hn1 := h.1.n1
  obtain ⟨R0, hR0⟩ : ∃ R0, R0 = openD d := ⟨_, rfl⟩
  rw [← hR0]
  have HR0 := Aside0.mk hR0
  clear h hB hbase hcnt hR0
  obtain ⟨nn, hnn⟩ : ∃ nn, nn = d.n := ⟨_, rfl⟩
  rw [← hnn] at HS hn0 hn1
  have HNN := Aside0.mk hnn
  clear hnn
  by_cases h64 : nn ≤ 64
  · have f1 : decide (nn ≤ 64) = true := decide_eq_true h64
    have hR : R0 = (d, 0, 8) := by rw [HR0.out]; unfold openD; rw [if_pos (by rw [← HNN.out]; exact h64)]
    subst hR
    go_enter Try.func17, Try.ntmps17
    go_wp2_with (go_at_call 43; refine HS.out.mono ?_; rintro e w1 ⟨rfl, rfl⟩)
    go_ret2
    exact ⟨_, rfl, HD.out, HB.out, KeepD.refl _, fun _ => rfl, fun e => absurd e (by decide)⟩
  have f1 : decide (nn ≤ 64) = false := decide_eq_false h64
  obtain ⟨T, hT⟩ : ∃ T, T = rdAll d 0 64 := ⟨_, rfl⟩
  have hR : R0 = if T.2 = 0 then ((writesD T.1 ((pagesOf (logOf d 64)).filter (fun p => thereB d.n p.f0))).1, seqTo d 64, (writesD T.1 ((pagesOf (logOf d 64)).filter (fun p => thereB d.n p.f0))).2) else (T.1, 0, T.2) := by
    rw [HR0.out]; unfold openD; rw [if_neg (by rw [← HNN.out]; exact h64), ← hT]
  have HR := Aside0.mk hR
  have HT := Aside0.mk hT
  clear hR hT h64 HR0
  go_enter Try.func17, Try.ntmps17
  go_upto_region 6 with (go_at_call 43; refine HS.out.mono ?_; rintro e W ⟨rfl, rfl⟩)
  obtain ⟨w2, hw2⟩ : ∃ w2, w2 = (W.alloc (.cells #[.pointer (some ⟨g, 0, none⟩), .int .u64 0] 81)).alloc (.cells #[.pointer (some ⟨W.heap.size, 0, none⟩)] 39) := ⟨_, rfl⟩
  have hbx := box2 W (.cells #[.pointer (some ⟨g, 0, none⟩), .int .u64 0] 81) (.cells #[.pointer (some ⟨W.heap.size, 0, none⟩)] 39)
  rw [← hw2] at hbx ⊢
  clear hw2
  obtain ⟨gw, hgw⟩ : ∃ gw, gw = W.heap.size := ⟨_, rfl⟩
  rw [← hgw] at hbx ⊢
  obtain ⟨gb, hgb⟩ : ∃ gb, gb = gw + 1 := ⟨_, rfl⟩
  rw [← hgb] at hbx ⊢
  obtain ⟨q1, q2, hb2⟩ := hbx
  rw [hgw] at hb2
  have HGW := Aside0.mk (show W.heap.size ≤ gw ∧ W.heap.size ≤ gb ∧ gb ≠ gw by omega)
  have hbs : base ≤ W.heap.size := Nat.le_trans HC.out.1 HB.out.size
  have HBS := Aside0.mk hbs
  have HD2 := Aside0.mk (HD.out.below hb2)
  have HB2 := Aside0.mk (HB.out.trans (hb2.mono hbs))
  have HK2 := Aside0.mk (KeepD.of_below hb2)
  have HQ1 := Aside0.mk (show IsWl w2 gw g 0 from q1)
  have HQ2 := Aside0.mk q2
  have INF2 := Aside0.mk info56
  have HCNT := Aside0.mk (fun k => rdTo_n d k)
  clear hgw hgb q1 q2 hb2 hbs
  go_wp2_with fail
  go_loopw [5, 23] (fun y x wr => ∃ (k : Nat), k ≤ 64 ∧ x = .int .i64 k ∧ Aside0 (T = rdAll d k (64 - k)) ∧ Aside0 (∀ i, i < k → rdErr d i = 0) ∧ Aside0 (∀ i, i < k → Sec (rdRow d i)) ∧ Aside0 (Kd.R rowK 56 wr W.heap.size tt y (logOf d k)) ∧ Aside0 (IsD base wr g (rdTo d k)) ∧ Aside0 (Below base w wr) ∧ Aside0 (KeepD W wr) ∧ Aside0 (IsWl wr gw g (seqTo d k)) ∧ Aside0 (wr.heap[gb]? = some (.cells #[.pointer (some ⟨gw, 0, none⟩)] 39 (0, 0)))) (fun _ x _ => 64 - (intOf x).toNat)
  case atStart => exact ⟨0, by omega, rfl, HT, ⟨fun i h => absurd h (Nat.not_lt_zero _)⟩, ⟨fun i h => absurd h (Nat.not_lt_zero _)⟩, ⟨Kd.R_nil _ _ _ _ _⟩, HD2, HB2, HK2, HQ1, HQ2⟩
  case round =>
    obtain ⟨k, hk, rfl, HTk, HEk, HSk, HRk, HDk, HBk, HKk, HWk, HXk⟩ := hrel
    by_cases hlt : k < 64
    · have g1 : decide ((k : Int) < 64) = true := decide_eq_true (by omega)
      have HRD := Aside0.mk (read_calls base g (rdTo d k) (k : Int) ⟨by omega, by omega⟩ w wr HDk.out HBk.out (by rw [(HCNT.out k).2.2.2]; have := HC.out; omega))
      have hT2 := HTk.out
      obtain ⟨f, hf⟩ : ∃ f, 64 - k = f + 1 := ⟨64 - k - 1, by omega⟩
      rw [hf] at hT2
      have hT3 : T = if rdErr d k = 0 then rdAll d (k + 1) f else (rdTo d (k + 1), rdErr d k) := hT2
      have hsec : rdErr d k = 0 → Sec (rdRow d k) := readD_sec HDk.out (k : Int)
      have eD : (readD (rdTo d k) (k : Int)).1 = rdTo d (k + 1) := rfl
      have eR : (readD (rdTo d k) (k : Int)).2.1 = rdRow d k := rfl
      have eE : (readD (rdTo d k) (k : Int)).2.2 = rdErr d k := rfl
      rw [eD, eR, eE] at HRD
      have hls : logOf d (k + 1) = logOf d k ++ [rdRow d k] := by unfold logOf; rw [List.range_succ, List.map_append]; rfl
      have hsq : seqTo d (k + 1) = if seqTo d k < numB ((rdRow d k).take 8) then numB ((rdRow d k).take 8) else seqTo d k := rfl
      have hll : (logOf d k).length = k := by unfold logOf; simp
      obtain ⟨er, her⟩ : ∃ er, er = rdErr d k := ⟨_, rfl⟩
      obtain ⟨row, hrow⟩ : ∃ row, row = rdRow d k := ⟨_, rfl⟩
      obtain ⟨s0, hs0⟩ : ∃ s0, s0 = seqTo d k := ⟨_, rfl⟩
      rw [← her] at HRD hT3 hsec
      rw [← hrow] at HRD hsec hls hsq
      rw [← hs0] at hsq HWk
      have HER := Aside0.mk her
      have HROW := Aside0.mk hrow
      have HLS := Aside0.mk hls
      have HT3 := Aside0.mk hT3
      have HF := Aside0.mk hf
      have HLL := Aside0.mk hll
      have HS0 := Aside0.mk hs0
      clear hT2 hT3 eD eR eE her hrow hls hf hll hs0 HTk
      by_cases he : er = 0
      case neg =>
        have g2 : (er != 0) = true := by simp [he]
        have hT := HT3.out
        rw [if_neg he] at hT
        have hR := HR.out
        rw [hT, if_neg (show ¬ (rdTo d (k + 1), er).2 = 0 from he)] at hR
        have HE := Aside0.mk he
        have HR2 := Aside0.mk hR
        clear hT hR he hsec hsq
        go_wp2_with (go_at_call 44; refine HRD.out.mono ?_; rintro e w3 ⟨v, rfl, h1, h2, h3, h4⟩; have HX := Aside0.mk (And.intro h1 (And.intro h2 (HKk.out.trans h3))); clear h1 h2 h3 h4)
        go_ret2
        rw [HR2.out]
        exact ⟨_, rfl, HX.out.1, HX.out.2.1, HX.out.2.2, fun _ => rfl, fun e => absurd e HE.out⟩
      subst he
      have hsc := hsec rfl
      have hbok : BytesOk row := hsc.2
      have hT := HT3.out
      rw [if_pos rfl] at hT
      have HTn := Aside0.mk hT
      have HSC := Aside0.mk hsc
      obtain ⟨vn, hvn⟩ : ∃ vn, vn = numB (row.take 8) := ⟨_, rfl⟩
      rw [← hvn] at hsq
      obtain ⟨s1, hs1⟩ : ∃ s1, s1 = seqTo d (k + 1) := ⟨_, rfl⟩
      rw [← hs1] at hsq
      have HVN := Aside0.mk hvn
      have HS1 := Aside0.mk hs1
      clear hsec hT hsc hvn hs1
      go_upto_region 13 with (go_at_call 44; refine HRD.out.mono ?_; rintro e w3 ⟨v, rfl, h1, h2, h3, h4⟩; have HD3 := Aside0.mk h1; have HB3 := Aside0.mk h2; have HK3 := Aside0.mk (HKk.out.trans h3); have HV3 := Aside0.mk (Kd.R_mono (ok' := fun k => wr.heap.size ≤ k) (Kd.R_bound h4) (fun k hk => hk.2.1)); have HR3 := Aside0.mk (R_keep HRk.out h3.w (by intro q hq; simp [Kd.slice, Kd.int, Kd.scalar] at hq; omega)); have HW3 := Aside0.mk (HWk.out.keep h3); have HX3 := Aside0.mk (h3.2 _ _ _ _ HXk.out (by decide) (by decide)); obtain ⟨A3, c3, e3⟩ := Kd.R_slice h4; rw [HSC.out.1] at e3; subst e3; clear h1 h2 h3 h4)
      obtain ⟨yA, yc, hy⟩ := Kd.R_slice HR3.out
      subst hy
      rw [HLL.out] at HR3 HRk
      rw [HLL.out]
      have hrd := Kd.R_reads' HV3.out
      have HC3 := Aside0.mk (And.intro hrd.2.1 hrd.2.2)
      have N1 := Aside0.mk (fun (w' : World) (hB : Below w3.heap.size w3 w') => number_c (n := 8) (c := c3) (A := A3) (l := row.take 8) (by rw [List.length_take, HSC.out.1]; rfl) (by rw [List.length_take]; omega) (hbok.take 8) (takeC (n := 512) (Kd.C_below (by have h := HC3.out.2; rw [HSC.out.1] at h; exact h) hB) (by decide)) (by have := HC3.out.1; omega))
      rw [← HVN.out] at N1
      have h8c : 8 ≤ c3 := by have := HC3.out.1; omega
      have HWSr := Aside0.mk HKk.out.1
      clear hrd hbok
      have hdr : Below w3.heap.size w3 w3.drew := below_drew (Below.refl _ _)
      refine start_ (n := 12) (S := fun w' => w'.heap[gb]? = some (.cells #[.pointer (some ⟨gw, 0, none⟩)] 39 (0, 0)) ∧ IsWl w' gw g s0 ∧ Below w3.heap.size w3 w') (ds := [11]) #[false, false, false, false, false, false, false, false, false, false, false, false] (by kernel_rfl) rfl rfl ⟨blk_below HX3.out hdr, HW3.out.below hdr, hdr⟩ (fun hHeld => ?_)
      generalize w3.drew = wD at hdr hHeld ⊢
      refine take_ (i := 0) (N := some 35) (v := ?_) (a' := ?_) #[true, false, false, false, false, false, false, false, false, false, false, false] rfl rfl (by kernel_rfl) (fun _ _ _ h => h) (Or.inl ⟨by rfl, ?_⟩) hHeld ?_ ?_
      rotate_left
      · intro w' t0
        have s1 := (blk_cell t0.1 0).trans (rfl : _ = some (Value.pointer (some ⟨gw, 0, none⟩)))
        go_simp
        with_reducible rfl
      rotate_left
      · simp only [Act.put, List.setIfInBounds_toArray, List.set_cons_zero, List.set_cons_succ]
        rfl
      refine take_ (i := 1) (N := some 36) (v := ?_) (a' := ?_) #[true, true, false, false, false, false, false, false, false, false, false, false] rfl rfl (by kernel_rfl) (fun _ _ _ h => h) (Or.inl ⟨by rfl, ?_⟩) hHeld ?_ ?_
      rotate_left
      · intro w' t0
        have s1 := (blk_cell t0.1 0).trans (rfl : _ = some (Value.pointer (some ⟨gw, 0, none⟩)))
        go_simp
        with_reducible rfl
      rotate_left
      · simp only [Act.put, List.setIfInBounds_toArray, List.set_cons_zero, List.set_cons_succ]
        rfl
      refine pure_ (i := 2) (N := some 37) (v := ?_) (a' := ?_) #[true, true, true, false, false, false, false, false, false, false, false, false] rfl rfl (by kernel_rfl) (fun _ _ _ h => h) (Or.inl ⟨by rfl, ?_⟩) ?_ ?_
      rotate_left
      · intro w'
        go_simp
        with_reducible rfl
      rotate_left
      · simp only [Act.put, List.setIfInBounds_toArray, List.set_cons_zero, List.set_cons_succ]
        rfl
      refine pure_ (i := 3) (N := some 38) (v := ?_) (a' := ?_) #[true, true, true, true, false, false, false, false, false, false, false, false] rfl rfl (by kernel_rfl) (fun _ _ _ h => h) (Or.inl ⟨by rfl, ?_⟩) ?_ ?_
      rotate_left
      · intro w'
        go_simp
        with_reducible rfl
      rotate_left
      · simp only [Act.put, List.setIfInBounds_toArray, List.set_cons_zero, List.set_cons_succ]
        rfl
      refine take_ (i := 4) (N := some 39) (v := ?_) (a' := ?_) #[true, true, true, true, true, false, false, false, false, false, false, false] rfl rfl (by kernel_rfl) (fun _ _ _ h => h) (Or.inl ⟨by rfl, ?_⟩) hHeld ?_ ?_
      rotate_left
      · intro w' t0
        have s1 := (blk_cell t0.2.1 1).trans (rfl : _ = some (Value.int .u64 s0))
        go_simp
        with_reducible rfl
      rotate_left
      · simp only [Act.put, List.setIfInBounds_toArray, List.set_cons_zero, List.set_cons_succ]
        rfl
      refine pure_ (i := 5) (N := some 40) (v := ?_) (a' := ?_) #[true, true, true, true, true, true, false, false, false, false, false, false] rfl rfl (by kernel_rfl) (fun _ _ _ h => h) (Or.inl ⟨by rfl, ?_⟩) ?_ ?_
      rotate_left
      · intro w'
        go_simp
        with_reducible rfl
      rotate_left
      · simp only [Act.put, List.setIfInBounds_toArray, List.set_cons_zero, List.set_cons_succ]
        rfl
      refine pure_ (i := 6) (N := some 41) (v := .slice A3 8 c3) (a' := ?_) #[true, true, true, true, true, true, true, false, false, false, false, false] rfl rfl (by kernel_rfl) (fun _ _ _ h => h) (Or.inl ⟨by rfl, ?_⟩) ?_ ?_
      · intro w'
        exact ex_hi (x := .tmp 40) (y := .const (.int .i64 8)) (m := 8) und56 size5' rfl rfl rfl h8c
      rotate_left
      · simp only [Act.put, List.setIfInBounds_toArray, List.set_cons_zero, List.set_cons_succ]
        rfl
      refine one_ (i := 7) (N := some 42) #[true, true, true, true, true, true, true, true, false, false, false, false] rfl rfl (by kernel_rfl) (by decide) (fun K hK => ?_)
      refine goes_ Try.func45 (by kernel_rfl) rfl #[.slice A3 8 c3] (by rfl) rfl rfl (by (try simp only [List.map_toArray, List.map_cons, List.map_nil]); first | done | rfl) ?_
      refine (N1.out wD hHeld.2.2).mono ?_
      rintro e w4 ⟨rfl, hb⟩
      have hq4 := blk_below hHeld.1 hb
      have hw4 := hHeld.2.1.below hb
      have hb4 := hHeld.2.2.trans (hb.mono hHeld.2.2.size)
      refine ⟨_, rfl, ?_⟩
      refine hK.out _ _ ⟨hq4, hw4, hb4⟩ (fun hHeld => ?_)
      clear hK K hb hq4 hw4 hb4
      refine pure_ (i := 8) (N := some 43) (v := .int .u64 s1) (a' := ?_) #[true, true, true, true, true, true, true, true, true, false, false, false] rfl rfl (by kernel_rfl) (fun _ _ _ h => h) (Or.inl ⟨by rfl, ?_⟩) ?_ ?_
      · intro w'
        first | (go_simp; done) | (go_simp; first | (rw [hsq]; done) | (rw [hsq]; rfl) | simp [hsq])
      rotate_left
      · simp only [Act.put, List.setIfInBounds_toArray, List.set_cons_zero, List.set_cons_succ]
        rfl
      refine pure_ (i := 9) (N := some 44) (v := ?_) (a' := ?_) #[true, true, true, true, true, true, true, true, true, true, false, false] rfl rfl (by kernel_rfl) (fun _ _ _ h => h) (Or.inl ⟨by rfl, ?_⟩) ?_ ?_
      rotate_left
      · intro w'
        go_simp
        with_reducible rfl
      rotate_left
      · simp only [Act.put, List.setIfInBounds_toArray, List.set_cons_zero, List.set_cons_succ]
        rfl
      refine pure_ (i := 10) (N := some 45) (v := ?_) (a' := ?_) #[true, true, true, true, true, true, true, true, true, true, true, false] rfl rfl (by kernel_rfl) (fun _ _ _ h => h) (Or.inl ⟨by rfl, ?_⟩) ?_ ?_
      rotate_left
      · intro w'
        go_simp
        with_reducible rfl
      rotate_left
      · simp only [Act.put, List.setIfInBounds_toArray, List.set_cons_zero, List.set_cons_succ]
        rfl
      have c1 := (blk_cell hHeld.2.1 1).trans (rfl : _ = some (Value.int .u64 s0))
      have f1 := blk_frozen hHeld.2.1 1
      refine last_ (i := 11) (N := none) #[true, true, true, true, true, true, true, true, true, true, true, true] rfl rfl (by kernel_rfl) (by decide) (fun K hK => ?_)
      refine skip_ rfl rfl (w1 := w4.setCell ⟨gw, 1, none⟩ (.int .u64 s1)) (by first | (go_simp; done) | (go_simp; rfl)) ?_
      refine hK.out _ _ ?_
      clear hK K
      refine done_ (by kernel_rfl) ?_
      have hb34 := hHeld.2.2
      have ht81 : ∀ k, (some gw : Option Nat) = some k → ∃ cs t, w4.heap[k]? = some (.cells cs t (0, 0)) ∧ t ≠ 88 ∧ t ≠ 106 := fun k e => by cases e; exact ⟨_, 81, hHeld.2.1, by decide, by decide⟩
      have HD5 := Aside0.mk ((HD3.out.below hb34).grown (grown_set w4 gw 1 (.int .u64 s1)) ht81)
      have HW5 := Aside0.mk (hHeld.2.1.put (s1 := s1))
      have HX5 := Aside0.mk ((Below.heap_setCell w4 ⟨gw, 1, none⟩ (.int .u64 s1) gb HGW.out.2.2).trans hHeld.1)
      have hb45 : Below W.heap.size w4 (w4.setCell ⟨gw, 1, none⟩ (.int .u64 s1)) := (Below.refl _ _).setCell HGW.out.1 _
      have hws : W.heap.size ≤ w3.heap.size := HK3.out.1
      have HB5 := Aside0.mk ((HB3.out.trans (hb34.mono (Nat.le_trans HBS.out hws))).trans (hb45.mono HBS.out))
      have HK5 := Aside0.mk ((HK3.out.trans (KeepD.of_below hb34)).far hb45 (Nat.le_refl _))
      have HR5 := Aside0.mk (Kd.R_set (Kd.R_below HR3.out hb34) hHeld.2.1 (by intro q hq; simp [Kd.slice, Kd.int, Kd.scalar] at hq; omega) 1 (.int .u64 s1))
      have HV5 := Aside0.mk (Kd.R_set (Kd.R_below HV3.out hb34) hHeld.2.1 (by intro q hq; simp [Kd.int, Kd.scalar] at hq; omega) 1 (.int .u64 s1))
      have HWS := Aside0.mk (Nat.le_trans hws (Nat.le_trans hb34.size hb45.size))
      have HWR := Aside0.mk (show ∀ k, (Value.slice yA k yc).ownBlock = some k → True from fun _ _ => trivial)
      clear hHeld hb34 ht81 hb45 hws c1 hdr hsq
      have HLTR := Aside0.mk (Kd.R_lt HRk.out)
      generalize w4.setCell ⟨gw, 1, none⟩ (.int .u64 s1) = w5 at HD5 HW5 HX5 HB5 HK5 HR5 HV5 HWS ⊢
      go_wp2_with ((with_reducible refine gate_dst (N := 49) rfl ?_); at_builtin; refine Kd.R_append rowK (w0 := w5) (W := w5) W.heap.size rfl (.tmp 46) (.tmp 48) 24 56 (.slice none 0 0) 24 rfl Try.underlying24 INF2.out rfl (by decide) (by decide) (.slice yA k yc) (logOf d k) row [.slice A3 512 c3] tt (fun k => wr.heap.size ≤ k) rfl rfl ⟨_, rfl, Kd.R_lower HV5.out HWSr.out⟩ (fun q hq => ⟨trivial, fun e => Nat.not_lt.2 hq (HLTR.out q e.symm)⟩) (fun _ _ => trivial) HR5.out (Below.refl _ _) HWS.out ?hl ?_; (case hl => rw [HLL.out]; omega); intro v6 w6 ho hb hG hat; have HO6 := Aside0.mk ho; have HB6 := Aside0.mk hb; have HG6 := Aside0.mk hG; clear ho hb hG hat)
      go_roundw
      case rel => exact ⟨k + 1, by omega, by go_num, ⟨by rw [HTn.out, show 64 - (k + 1) = f from by have := HF.out; omega]⟩, ⟨fun i hi => by
          by_cases e : i = k
          · subst e; exact HER.out.symm
          · exact HEk.out i (by omega)⟩, ⟨fun i hi => by
          by_cases e : i = k
          · subst e; rw [← HROW.out]; exact HSC.out
          · exact HSk.out i (by omega)⟩, ⟨by rw [HLS.out]; exact HO6.out⟩, ⟨HD5.out.grown HG6.out (row_typed HR5.out (by decide) (by decide))⟩, ⟨HB5.out.trans (HB6.out.mono HBS.out)⟩, ⟨HK5.out.far HB6.out (Nat.le_refl _)⟩, ⟨by rw [← HS1.out]; exact (HG6.out.block gw (blk_lt HW5.out) (Kd.R_ne HR5.out HW5.out (by decide))).trans HW5.out⟩, ⟨(HG6.out.block gb (blk_lt HX5.out) (Kd.R_ne HR5.out HX5.out (by decide))).trans HX5.out⟩⟩
      case measure => simp [intOf]; omega
    · obtain rfl : k = 64 := by omega
      have g1 : decide (((64 : Nat) : Int) < 64) = false := by decide
      have hT : T = (rdTo d 64, 0) := HTk.out
      have hR := HR.out
      rw [hT, if_pos rfl] at hR
      dsimp only at hR
      obtain ⟨yA, yc, hy⟩ := Kd.R_slice HRk.out
      subst hy
      have hll : (logOf d 64).length = 64 := by unfold logOf; simp
      rw [hll] at HRk ⊢
      have hbk : ∀ s ∈ logOf d 64, BytesOk s := by
        intro s hs
        unfold logOf at hs
        obtain ⟨i, hi, rfl⟩ := List.mem_map.1 hs
        exact (HSk.out i (List.mem_range.1 hi)).2
      have hrd := Kd.R_reads' HRk.out
      have HSN := Aside0.mk (scan_c wr yA 64 yc (logOf d 64) (by have h := hrd.2.2; rw [hll] at h; exact h) hrd.2.1 (by decide) hbk)
      have HBK := Aside0.mk hbk
      have HRe := Aside0.mk hR
      have hbx := (blk_cell HXk.out 0).trans (rfl : _ = some (Value.pointer (some ⟨gw, 0, none⟩)))
      clear hT hR hll hbk hrd hbx
      go_upto_region 17 with (go_at_call 40; refine HSN.out.mono ?_; rintro e w7 ⟨sq, out, ok, v, rfl, h1, h2, h3⟩; have HSR := Aside0.mk h1; have HV7 := Aside0.mk h2; have HB7 := Aside0.mk h3; clear h1 h2 h3)
      have hpo := scanR_out HSR.out
      cases ok with
      | false =>
        have ho := hpo.2 rfl
        have hR := HRe.out
        rw [← hpo.1, ho, List.filter_nil, writesD_nil] at hR
        dsimp only at hR
        have HR2 := Aside0.mk hR
        have bx := (blk_cell (blk_below HXk.out HB7.out) 0).trans (rfl : _ = some (Value.pointer (some ⟨gw, 0, none⟩)))
        clear hpo ho hR
        go_wp2
        go_ret2
        rw [HR2.out]
        exact ⟨_, rfl, HDk.out.below HB7.out, HBk.out.trans (HB7.out.mono (Nat.le_trans HBS.out HKk.out.1)), HKk.out.trans (KeepD.of_below HB7.out), fun e => absurd rfl e, fun _ => ⟨gw, rfl, HGW.out.1, HWk.out.below HB7.out⟩⟩
      | true =>
        have hok : out.length ≤ 64 ∧ ∀ p ∈ out, BytesOk p.f1 ∧ 0 ≤ p.f0 ∧ p.f0 ≤ 2147483647 := by
          rcases HSR.out with ⟨_, _, n, m, h, rfl⟩ | ⟨h, _⟩
          · exact ⟨by unfold outS; rw [List.length_map, List.length_range]; have := h.m64; omega, fun p hp => by have h2 := page_ok h HBK.out p hp; exact ⟨h2.1, h2.2.1, h2.2.2.1⟩⟩
          · cases h
        obtain ⟨Av, cv, hv⟩ := Kd.R_slice HV7.out
        subst hv
        have hR := HRe.out
        rw [← hpo.1] at hR
        have HDF := Aside0.mk (delete_c (base := base) (gw := gw) (g := g) (gb := gb) (seq := seqTo d 64) (d := rdTo d 64) wr w7 Av out.length cv out HV7.out HB7.out HXk.out HWk.out HDk.out (Nat.le_trans hok.1 (by decide)))
        rw [(HCNT.out 64).1] at HDF
        obtain ⟨F, hF⟩ : ∃ F, F = out.filter (fun p => thereB d.n p.f0) := ⟨_, rfl⟩
        rw [← hF] at HDF hR
        have hFl : F.length ≤ 64 := by rw [hF]; exact Nat.le_trans (List.length_filter_le _ _) hok.1
        have hFo : ∀ p ∈ F, BytesOk p.f1 ∧ 0 ≤ p.f0 ∧ p.f0 ≤ 2147483647 := fun p hp => hok.2 p (by rw [hF] at hp; exact (List.mem_filter.1 hp).1)
        have HFO := Aside0.mk (And.intro hFl hFo)
        obtain ⟨no, hno⟩ : ∃ no, no = out.length := ⟨_, rfl⟩
        rw [← hno] at HDF HV7 ⊢
        obtain ⟨r, hr⟩ : ∃ r, r = writesD (rdTo d 64) F := ⟨_, rfl⟩
        rw [← hr] at hR
        have HRR := Aside0.mk hr
        have HR2 := Aside0.mk hR
        have bx7 := (blk_cell (blk_below HXk.out HB7.out) 0).trans (rfl : _ = some (Value.pointer (some ⟨gw, 0, none⟩)))
        clear hpo hok hR hF hFl hFo hno hr
        obtain ⟨dr, er⟩ := r
        dsimp only at HR2
        go_upto_region 21 with (first
          | (go_at_call 46; refine HDF.out.mono ?_; rintro e w8 ⟨m8, c8, A8, rfl, h1, h2⟩; have HP8 := Aside0.mk h1; have HB8 := Aside0.mk h2; have bx8 := (blk_cell (blk_below HXk.out h2) 0).trans (rfl : _ = some (Value.pointer (some ⟨gw, 0, none⟩))); have hD8 := HDk.out.below h2; have hW8 := HWk.out.below h2; have hB8' := HBk.out.trans (h2.mono (Nat.le_trans HBS.out HKk.out.1)); have HWC := Aside0.mk (writes_c base gw g (seqTo d 64) (rdTo d 64) w w8 A8 m8 c8 F h1 hW8 hD8 hB8' HC.out.1 HFO.out.2 (by rw [(HCNT.out 64).2.2.2, ← h1.len]; have h3 := HC.out; have h4 := HFO.out.1; omega) (by rw [← h1.len]; have h4 := HFO.out.1; omega)); have HK8 := Aside0.mk (HKk.out.trans (KeepD.of_below h2)); have HW8 := Aside0.mk hW8; have HX8 := Aside0.mk (blk_below HXk.out h2); clear h1 h2 hD8 hW8 hB8')
          | (go_at_call 49; refine HWC.out.mono ?_; rintro e w9 ⟨rfl, h1, h2, h3⟩; have HX9 := Aside0.mk (And.intro h1 (And.intro h2 (HK8.out.trans h3))); have bx9 := (blk_cell (h3.2 _ _ _ _ HX8.out (by decide) (by decide)) 0).trans (rfl : _ = some (Value.pointer (some ⟨gw, 0, none⟩))); have HW9 := Aside0.mk (HW8.out.keep h3); clear h1 h2 h3))
        rw [← HRR.out] at HX9 ⊢
        dsimp only at HX9 ⊢
        by_cases he : er = 0
        · subst he
          go_wp2
          go_ret2
          rw [HR2.out]
          exact ⟨_, rfl, HX9.out.1, HX9.out.2.1, HX9.out.2.2, fun e => absurd rfl e, fun _ => ⟨gw, rfl, HGW.out.1, HW9.out⟩⟩
        · have g2 : (er != 0) = true := by simp [he]
          have HE := Aside0.mk he
          clear he
          go_wp2
          go_ret2
          rw [HR2.out]
          exact ⟨_, rfl, HX9.out.1, HX9.out.2.1, HX9.out.2.2, fun _ => rfl, fun e => absurd e HE.out⟩
end Go.Proofs.Ytmghgghheebnjaa.Dis
