/- The law WalAny, walked by hand (written by mkwals.py). -/
import Derived.Test.YtmghgghheebnjaaWalR
import Derived.Test.YtmghgghheebnjaaRfI
namespace Go.Proofs.Ytmghgghheebnjaa.Dis
open Go.RowKit Go.Proofs.YtmghgghheebnjaaW.PrintWords Go.Proofs.YtmghgghheebnjaaW.PrintLast Go.Proofs.YtmghgghheebnjaaW.PrintMore Go.Maps Go.Proofs.Ytmghgghheebnjaa.PWalRecords
set_option linter.unusedVariables false
set_option linter.unusedSimpArgs false
theorem und9 : Try.prog.underlying 9 = some .string := by kernel_rfl
theorem bytes_string {w : World} {A : Option Addr} {n c : Nat} {xs : List Int} (h : (Kd.int .u8).C w A n xs) : (convert 56 9 (.slice A n c)).run Try.prog w = .ok (.string (strOfNums xs)) w := Kd.C_string Try.underlying56 Try.underlying5 und9 h
theorem exec_conv {o : Oper} {a : Act} {W : World} {x : Operand} {v : Value} {s : ByteArray} (ho : o.op = .convert 56 9 x) (hx : a.eval x = v) (hrun : (convert 56 9 v).run Try.prog W = .ok (.string s) W) : (execOp a.eval o).run Try.prog W = .ok (.value (.string s)) W := by
  simp [execOp, ho, hx, hrun]
theorem applyW_hit : ∀ (l : List (Int × List Int)) (f g : Int → List Int) (i : Int), (∃ x ∈ l, x.1 = i) → applyW l f i = applyW l g i := by
  intro l
  induction l with
  | nil => intro f g i h; obtain ⟨x, hx, _⟩ := h; cases hx
  | cons x xs ih =>
    intro f g i h
    show applyW xs (upd f x) i = applyW xs (upd g x) i
    by_cases h2 : ∃ y ∈ xs, y.1 = i
    · exact ih _ _ i h2
    · have h3 : ∀ y ∈ xs, y.1 ≠ i := fun y hy e => h2 ⟨y, hy, e⟩
      rw [applyW_out _ _ _ h3, applyW_out _ _ _ h3]
      obtain ⟨y, hy, he⟩ := h
      rcases List.mem_cons.1 hy with rfl | hy
      · unfold upd
        rw [if_pos he.symm, if_pos he.symm]
      · exact absurd he (h3 y hy)
theorem applyW_twice (l : List (Int × List Int)) (f : Int → List Int) (i : Int) : applyW l (applyW l f) i = applyW l f i := by
  by_cases h : ∃ x ∈ l, x.1 = i
  · exact applyW_hit l _ _ i h
  · exact applyW_out l _ i (fun x hx e => h ⟨x, hx, e⟩)
theorem pagesOf_ok {l : List (List Int)} (hb : ∀ s ∈ l, BytesOk s) : ∀ p ∈ pagesOf l, BytesOk p.f1 ∧ 0 ≤ p.f0 ∧ p.f0 ≤ 2147483647 ∧ p.f1.length = 512 := by
  intro p hp
  unfold pagesOf at hp
  split at hp
  · rename_i h
    exact page_ok h hb p hp
  · cases hp
theorem logF_congr {f g : Int → List Int} (h : ∀ i : Nat, i < 64 → f (i : Int) = g (i : Int)) : logF f = logF g := by
  unfold logF
  exact List.map_congr_left (fun k hk => h k (List.mem_range.1 hk))
theorem seqTo_congr {d d' : D} : ∀ k, (∀ i, i < k → rdRow d i = rdRow d' i) → seqTo d k = seqTo d' k := by
  intro k
  induction k with
  | zero => intro _; rfl
  | succ k ih =>
    intro h
    unfold seqTo
    rw [ih (fun i hi => h i (by omega)), h k (by omega)]
/-- Opening twice with power. -/
theorem open_twice {d : D} (h : Live d) (hs : d.since = []) (hn : 64 < d.n) (hsec : ∀ i, Sec (d.fast i)) : ∃ (d1 d2 : D) (s : Int), openD d = (d1, s, 0) ∧ openD d1 = (d2, s, 0) ∧ d1.n = d.n ∧ d2.n = d.n ∧ d1.cnt ≤ d.cnt + 64 ∧ d2.cnt ≤ d.cnt + 128 ∧
    (∀ i : Nat, (i : Int) < d.n - 64 → ∃ b, readW d1 (i : Int) = (d1, b, 0) ∧ readW d2 (i : Int) = (d2, b, 0)) := by
  have hb : ∀ s ∈ logF d.fast, BytesOk s := by
    intro s hs
    unfold logF at hs
    obtain ⟨k, _, rfl⟩ := List.mem_map.1 hs
    exact (hsec _).2
  obtain ⟨F, hF⟩ : ∃ F, F = (pagesOf (logF d.fast)).filter (fun p => thereB d.n p.f0) := ⟨_, rfl⟩
  have hFp : ∀ p ∈ F, thereB d.n p.f0 = true ∧ p.f1.length = 512 := by
    intro p hp
    rw [hF] at hp
    have h1 := List.mem_filter.1 hp
    exact ⟨h1.2, (pagesOf_ok hb p h1.1).2.2.2⟩
  have hFl : F.length ≤ 64 := by
    rw [hF]
    refine Nat.le_trans (List.length_filter_le _ _) ?_
    unfold pagesOf
    split
    · rename_i hh
      unfold outS
      rw [List.length_map, List.length_range]
      exact hh.m64
    · simp
  obtain ⟨c1, hw1, hc1⟩ := writesD_live h hs hFp
  obtain ⟨d1, hd1⟩ : ∃ d1 : D, d1 = { d with fast := applyW (pgW F) d.fast, cnt := c1 } := ⟨_, rfl⟩
  rw [← hd1] at hw1
  have hl1 : Live d1 := by rw [hd1]; exact h
  have hs1 : d1.since = [] := by rw [hd1]; exact hs
  have hn1 : d1.n = d.n := by rw [hd1]
  have hf1 : d1.fast = applyW (pgW F) d.fast := by rw [hd1]
  have hcc1 : d1.cnt = c1 := by rw [hd1]
  have hlow : ∀ i : Nat, i < 64 → d1.fast (i : Int) = d.fast (i : Int) := by
    intro i hi
    rw [hf1]
    refine applyW_out _ _ _ (fun x hx => ?_)
    obtain ⟨p, hp, rfl⟩ := List.mem_map.1 hx
    have := of_decide_eq_true (hFp p hp).1
    show 64 + p.f0 ≠ (i : Int)
    omega
  have hlog : logF d1.fast = logF d.fast := logF_congr hlow
  have ho1 : openD d = (d1, seqTo d 64, 0) := by rw [openD_live h hs hn, ← hF, hw1]
  have hF2 : (pagesOf (logF d1.fast)).filter (fun p => thereB d1.n p.f0) = F := by rw [hlog, hn1, hF]
  obtain ⟨c2, hw2, hc2⟩ := writesD_live hl1 hs1 (l := F) (fun p hp => by rw [hn1]; exact hFp p hp)
  obtain ⟨d2, hd2⟩ : ∃ d2 : D, d2 = { d1 with fast := applyW (pgW F) d1.fast, cnt := c2 } := ⟨_, rfl⟩
  rw [← hd2] at hw2
  have hl2 : Live d2 := by rw [hd2]; exact hl1
  have hs2 : d2.since = [] := by rw [hd2]; exact hs1
  have hn2 : d2.n = d.n := by rw [hd2]; exact hn1
  have hsq : seqTo d1 64 = seqTo d 64 := seqTo_congr 64 (fun i hi => by rw [(rd_live hl1 hs1 (by rw [hn1]; exact hn) hi).1, (rd_live h hs hn hi).1, hlow i hi])
  have ho2 : openD d1 = (d2, seqTo d 64, 0) := by rw [openD_live hl1 hs1 (by rw [hn1]; exact hn), hF2, hw2, hsq]
  refine ⟨d1, d2, seqTo d 64, ho1, ho2, hn1, hn2, by omega, by rw [hd2]; show c2 ≤ _; omega, fun i hi => ⟨d1.fast (64 + (i : Int)), ?_, ?_⟩⟩
  · unfold readW
    rw [if_pos (by rw [hn1]; exact decide_eq_true ⟨by omega, hi⟩), readD_live hl1 hs1 (by omega) (by rw [hn1]; omega)]
  · unfold readW
    rw [if_pos (by rw [hn2]; exact decide_eq_true ⟨by omega, hi⟩), readD_live hl2 hs2 (by omega) (by rw [hn2]; omega)]
    have e : d2.fast (64 + (i : Int)) = d1.fast (64 + (i : Int)) := by rw [hd2]; show applyW (pgW F) d1.fast _ = _; rw [hf1, applyW_twice]
    rw [e]
theorem sec_of {base g : Nat} {w : World} {d : D} (h : IsD base w g d) : ∀ i, Sec (d.fast i) := by
  obtain ⟨_, b, v, m, _, _, _, _, hM, _⟩ := h
  exact hM.1
set_option maxHeartbeats 16000000 in
set_option maxRecDepth 100000 in
theorem any_calls (W : World) (img : List Int) (A : Option Addr) (ci : Nat) (sx : Int) (hC : Kd.C byteK W A img.length img) (hci : img.length ≤ ci) (hlen : img.length ≤ 140737488351232) (hok : BytesOk img) (hs0 : 0 ≤ sx) (hs1 : sx < 256) :
    Calls Try.prog 7 #[.slice A img.length ci, .int .u8 sx] W fun e w' => e = .returned (.bool true) ∧ Below W.heap.size W w' := by
  obtain ⟨im, him⟩ : ∃ im, im = img.take 40000 := ⟨_, rfl⟩
  obtain ⟨m, hm⟩ : ∃ m, m = min img.length 40000 := ⟨_, rfl⟩
  have hml : im.length = m := by rw [him, List.length_take, hm]; omega
  have hst : img.take m = im := by
    rw [him, hm]
    by_cases h2 : img.length ≤ 40000
    · rw [Nat.min_eq_left h2, List.take_of_length_le (Nat.le_refl _), List.take_of_length_le h2]
    · rw [Nat.min_eq_right (by omega)]
  have hCm : Kd.C byteK W A m im := by rw [← hst]; exact takeC hC (by omega)
  have HCI := Aside0.mk hCm
  have HIO := Aside0.mk (show BytesOk im by rw [him]; exact hok.take _)
  have HML := Aside0.mk hml
  have hmb : m ≤ 40000 ∧ m ≤ ci := by omega
  obtain ⟨n, hn⟩ : ∃ n : Nat, n = (65 + sx % 8).toNat := ⟨_, rfl⟩
  have hn' : 65 + sx % 8 = (n : Int) := by omega
  have hnb : 65 ≤ n ∧ n ≤ 72 := by omega
  clear hn
  have INF := Aside0.mk info5
  have INF2 := Aside0.mk info56
  obtain ⟨L, hL⟩ : ∃ L, L = img.length := ⟨_, rfl⟩
  rw [← hL] at hci hlen hm ⊢
  have HCI2 := Aside0.mk (show L ≤ ci ∧ m = min L 40000 from ⟨hci, hm⟩)
  clear hml him hok hC hL hst hCm
  have HLOAD := Aside0.mk (fun (w : World) (A4 : Option Addr) (c4 : Nat) (h : Kd.R byteK 5 w W.heap.size tt (.slice A4 m c4) im) => by
    have h1 := Kd.R_reads' h
    have h2 := load_calls (n : Int) A4 c4 im w h1.2.2 (by have := h1.1; have := h1.2.1; omega) (by rw [HML.out]; omega) HIO.out
    rw [HML.out] at h2
    exact h2)
  have esx : (Int.tmod sx 8) = sx % 8 := Int.tmod_eq_emod_of_nonneg hs0
  go_enter Try.func7, Try.ntmps7
  by_cases hbig : 40000 < L
  · have f1 : decide ((40000 : Int) < L) = true := decide_eq_true (by omega)
    have h4 : 40000 ≤ ci := by omega
    have hm4 : m = 40000 := by omega
    clear hm hbig
    go_upto_region 4 with fail
    rw [← hm4]
    clear hm4 h4
    go_upto_region 5 with (first
      | ((with_reducible refine gate_dst (N := 27) rfl ?_); refine Kd.R_lit byteK (w0 := W) W.heap.size 5 ?hg (N := 27) ?hd (xs := ([] : List Int)) (inner := []) (ok := tt) (okp := tt) ?hr ?hp (fun _ hk => hk) trivial (Below.refl _ _) (Nat.le_refl _) (by simp) ?_; (case hd => rfl); (case hg => rfl); (case hr => first | (go_simp; done) | (go_simp; rfl)); (case hp => exact (Reps.none _ _)); intro v3 w3 ho hb hg_ hnew_; clear hg_ hnew_; have HO := Aside0.mk ho; have HB3 := Aside0.mk hb; clear hb ho)
      | ((with_reducible refine gate_dst (N := 29) rfl ?_); at_builtin; refine Kd.R_append_rows byteK (w0 := W) W.heap.size rfl (.tmp 27) (.tmp 28) 56 5 (.int .u8 0) 1 rfl Try.underlying56 INF.out rfl (by decide) (by decide) v3 [] im A m ci tt (fun _ => False) rfl rfl HO.out (Kd.C_below HCI.out HB3.out) (fun _ _ h => h) (fun _ h => h.elim) (fun _ _ => trivial) HB3.out HB3.out.size ?hl ?_; (case hl => simp; omega); intro v4 w4 ho hb hG hat; rw [List.nil_append] at ho; have HR4 := Aside0.mk ho; have HB4 := Aside0.mk hb; obtain ⟨A4, c4, e4⟩ := Kd.R_slice ho; rw [HML.out] at e4; subst e4; clear ho hb hG hat)
      | (go_at_call 28; refine (HLOAD.out w4 A4 c4 HR4.out).mono ?_; rintro e w5 ⟨g, rfl, h1, h2⟩; have HD5 := Aside0.mk h1; have HB5 := Aside0.mk h2; clear h1 h2))
    obtain ⟨d, hd⟩ : ∃ d : D, d = loadDTo n im (loadN n m) := ⟨_, rfl⟩
    rw [← hd] at HD5
    obtain ⟨q1, q2, q3, q4, q5⟩ := loadDTo_same n im (loadN n m)
    rw [← hd] at q1 q2 q3 q4 q5
    have hdn : d.n = (n : Int) := by rw [q1]; unfold clampN; rw [if_neg (by omega), if_neg (by omega)]
    have hdc : d.cnt ≤ 4096 := by rw [q5]; unfold loadN; have := clamp_bounds n; omega
    obtain ⟨d1, d2, s, ho1, ho2, hn1, hn2, hc1, hc2, hrd⟩ := open_twice (d := d) ⟨q3, q4⟩ q2 (by rw [hdn]; omega) (sec_of HD5.out)
    have HO1 := Aside0.mk (And.intro ho1 ho2)
    have HCN := Aside0.mk (show d.cnt ≤ 4096 ∧ d1.cnt ≤ 5000 ∧ d2.cnt ≤ 5000 by omega)
    have HN1 := Aside0.mk (show d1.n = (n : Int) ∧ d2.n = (n : Int) by rw [hn1, hn2, hdn]; exact ⟨rfl, rfl⟩)
    have HRD := Aside0.mk (show ∀ i : Nat, i < n - 64 → readW d1 (i : Int) = (d1, (readW d1 (i : Int)).2.1, 0) ∧ readW d2 (i : Int) = (d2, (readW d1 (i : Int)).2.1, 0) from fun i hi => by
      obtain ⟨b, h1, h2⟩ := hrd i (by rw [hdn]; omega)
      rw [h1]
      exact ⟨rfl, h2⟩)
    have hwB : W.heap.size ≤ w4.heap.size := HB4.out.size
    have HWB := Aside0.mk hwB
    clear hd q1 q2 q3 q4 q5 hdn hdc ho1 ho2 hn1 hn2 hc1 hc2 hrd hwB
    go_upto_region 6 with (go_at_call 17; refine (open_c w4.heap.size g d w4 w5 HD5.out HB5.out (Nat.le_refl _) (by have := HCN.out.1; omega)).mono ?_; rintro e w6 ⟨v6, rfl, h1, h2, h3, _, h5⟩; rw [HO1.out.1] at h1 h5 ⊢; obtain ⟨gw, rfl, hg, hw⟩ := h5 rfl; have HD6 := Aside0.mk h1; have HB6 := Aside0.mk h2; have HW6 := Aside0.mk hw; clear h1 h2 h3 h5 hg hw)
    have hpm := pagesm_c HW6.out HD6.out
    rw [show (d1, s, (0 : Int)).1.n - 64 = ((n - 64 : Nat) : Int) by show d1.n - 64 = _; rw [HN1.out.1]; omega] at hpm
    have HPM := Aside0.mk hpm
    obtain ⟨N, hN⟩ : ∃ N, N = n - 64 := ⟨_, rfl⟩
    rw [← hN] at HPM HRD
    have hNn : (n : Int) - 64 = (N : Int) := by omega
    have hNb : N ≤ 8 := by omega
    clear hpm hN
    go_upto_region 9 with (first
      | (go_at_call 29; refine HPM.out.mono ?_; rintro e W6 ⟨rfl, hw6⟩; cases hw6)
      | ((with_reducible refine gate_dst (N := 49) rfl ?_); refine Kd.R_lit rowK (w0 := w4) w4.heap.size 56 ?hg (N := 49) ?hd (xs := ([] : List (List Int))) (inner := []) (ok := tt) (okp := tt) ?hr ?hp (fun _ hk => hk) trivial HB6.out HB6.out.size (by simp) ?_; (case hd => rfl); (case hg => rfl); (case hr => first | (go_simp; done) | (go_simp; rfl)); (case hp => exact (Reps.none _ _)); intro v7 w7 ho hb hg_ hnew_; have HO7 := Aside0.mk ho; have HB7 := Aside0.mk hb; have HG7 := Aside0.mk hg_; clear hb ho hg_ hnew_))
    have hD7 := HD6.out.grown HG7.out (fun k e => by cases e)
    have hW7 : IsWl w7 gw g s := (HG7.out.block gw (blk_lt HW6.out) (by simp)).trans HW6.out
    have HD7 := Aside0.mk hD7
    have HW7 := Aside0.mk hW7
    clear hD7 hW7
    go_wp2_with fail
    go_loopw [9, 10] (fun y x wr => ∃ (k : Nat), k ≤ N ∧ x = .int .i64 k ∧ Aside0 (Kd.R rowK 56 wr w4.heap.size tt y ((List.range k).map (fun i => (readW d1 ((i : Nat) : Int)).2.1))) ∧ Aside0 (IsD w4.heap.size wr g d1) ∧ Aside0 (IsWl wr gw g s) ∧ Aside0 (Below w4.heap.size w4 wr)) (fun _ x _ => N - (intOf x).toNat)
    case atStart => exact ⟨0, Nat.zero_le _, rfl, HO7, HD7, HW7, HB7⟩
    case round =>
      obtain ⟨k, hk, rfl, HRk, HDk, HWk, HBk⟩ := hrel
      obtain ⟨yA, yc, hy⟩ := Kd.R_slice HRk.out
      subst hy
      rw [List.length_map, List.length_range] at HRk ⊢
      by_cases hlt : k < N
      · have g1 : decide ((k : Int) < N) = true := decide_eq_true (by omega)
        have hrd := wread_c w4.heap.size gw g s d1 (k : Int) ⟨by omega, by omega⟩ w4 wr HWk.out HDk.out HBk.out (by have := HCN.out.2.1; omega)
        rw [(HRD.out k hlt).1] at hrd
        obtain ⟨b, hb⟩ : ∃ b, b = (readW d1 (k : Int)).2.1 := ⟨_, rfl⟩
        rw [← hb] at hrd
        have HBE := Aside0.mk hb
        have HRDk := Aside0.mk hrd
        have HLTR := Aside0.mk (Kd.R_lt HRk.out)
        have HWRS := Aside0.mk HBk.out.size
        obtain ⟨lb, hlb⟩ : ∃ lb, lb = b.length := ⟨_, rfl⟩
        have HLB := Aside0.mk hlb
        clear hb hrd hlb
        go_wp2_with (first
          | (go_at_call 30; refine HRDk.out.mono ?_; rintro e w8 ⟨v8, rfl, h1, h2, h3, h4⟩; have HD8 := Aside0.mk h1; have HB8 := Aside0.mk h2; have HW8 := Aside0.mk (HWk.out.keep h3); have HR8 := Aside0.mk (R_keep HRk.out h3.w (by intro q hq; simp [Kd.slice, Kd.int, Kd.scalar] at hq; omega)); have HV8 := Aside0.mk (Kd.R_mono (ok' := fun q => wr.heap.size ≤ q) (Kd.R_bound h4) (fun q hq => hq.2.1)); obtain ⟨A8, c8, e8⟩ := Kd.R_slice h4; rw [show ((d1, b, (0 : Int)).2.1).length = lb from HLB.out.symm] at e8; subst e8; clear h1 h2 h3 h4)
          | ((with_reducible refine gate_dst (N := 67) rfl ?_); at_builtin; refine Kd.R_append rowK (w0 := w4) (W := w8) w4.heap.size rfl (.tmp 64) (.tmp 66) 24 56 (.slice none 0 0) 24 rfl Try.underlying24 INF2.out rfl (by decide) (by decide) (.slice yA k yc) ((List.range k).map (fun i => (readW d1 ((i : Nat) : Int)).2.1)) b [.slice A8 lb c8] tt (fun q => wr.heap.size ≤ q) rfl rfl ⟨_, rfl, Kd.R_lower HV8.out HWRS.out⟩ (fun q hq => ⟨trivial, fun e => Nat.not_lt.2 hq (HLTR.out q e.symm)⟩) (fun _ _ => trivial) HR8.out HB8.out HB8.out.size ?hl ?_; (case hl => simp; omega); intro v9 w9 ho hb hG hat; have HO9 := Aside0.mk ho; have HB9 := Aside0.mk hb; have HG9 := Aside0.mk hG; clear ho hb hG hat))
        go_roundw
        case rel => exact ⟨k + 1, by omega, by go_num, ⟨by rw [List.range_succ, List.map_append, List.map_cons, List.map_nil, ← HBE.out]; exact HO9.out⟩, ⟨HD8.out.grown HG9.out (row_typed HR8.out (by decide) (by decide))⟩, ⟨(HG9.out.block gw (blk_lt HW8.out) (Kd.R_ne HR8.out HW8.out (by decide))).trans HW8.out⟩, HB9⟩
        case measure => simp [intOf]; omega
      · obtain rfl : k = N := by omega
        have g1 : decide ((k : Int) < k) = false := decide_eq_false (by omega)
        have HOP := Aside0.mk (open_c w4.heap.size g d1 w4 wr HDk.out HBk.out (Nat.le_refl _) (by have := HCN.out.2.1; omega))
        go_upto_region 17 with (go_at_call 17; refine HOP.out.mono ?_; rintro e w10 ⟨v10, rfl, h1, h2, h3, _, h5⟩; rw [HO1.out.2] at h1 h5 ⊢; obtain ⟨gv, rfl, hg, hw⟩ := h5 rfl; have HD10 := Aside0.mk h1; have HB10 := Aside0.mk h2; have HV10 := Aside0.mk hw; have HW10 := Aside0.mk (HWk.out.keep h3); have HR10 := Aside0.mk (R_keep HRk.out h3.w (by intro q hq; simp [Kd.slice, Kd.int, Kd.scalar] at hq; omega)); clear h1 h2 h3 h5 hg hw)
        obtain ⟨Ay, cy, hey, _, hsc⟩ := scL_of_R HR10.out
        injection hey with ey1 ey2 ey3
        subst ey1
        rw [List.length_map, List.length_range] at hsc
        have HSC := Aside0.mk hsc
        clear hsc ey2 ey3
        go_wp2_with (go_at_call 24; first
          | (refine (seq_c HV10.out).mono ?_; rintro e W10 ⟨rfl, hw10⟩; cases hw10)
          | (refine (seq_c HW10.out).mono ?_; rintro e W10 ⟨rfl, hw10⟩; cases hw10))
        have HKZ := Aside0.mk (KeepW.refl w10)
        go_loopw [14] (fun x wr => ∃ (i : Nat), i ≤ k ∧ x = .int .i64 i ∧ Aside0 (IsD w4.heap.size wr g d2) ∧ Aside0 (IsWl wr gv g s) ∧ Aside0 (Below w4.heap.size w4 wr) ∧ Aside0 (KeepW w10 wr)) (fun x _ => k - (intOf x).toNat)
        case atStart => exact ⟨0, Nat.zero_le _, rfl, HD10, HV10, HB10, HKZ⟩
        case round =>
          obtain ⟨i, hi, rfl, HDi, HVi, HBi, HKi⟩ := hrel
          by_cases hlt2 : i < k
          · have g2 : decide ((i : Int) < k) = true := decide_eq_true (by omega)
            have hrd := wread_c w4.heap.size gv g s d2 (i : Int) ⟨by omega, by omega⟩ w4 wr HVi.out HDi.out HBi.out (by have := HCN.out.2.2; omega)
            rw [(HRD.out i hlt2).2] at hrd
            obtain ⟨b, hb⟩ : ∃ b, b = (readW d1 (i : Int)).2.1 := ⟨_, rfl⟩
            rw [← hb] at hrd
            have HRDi := Aside0.mk hrd
            obtain ⟨ad, A1, c1, hA, _, hat⟩ := HSC.out.at_ i hlt2
            have hrow : ((List.range k).map (fun i => (readW d1 ((i : Nat) : Int)).2.1)).getD i [] = b := by
              rw [List.getD_eq_getElem?_getD, List.getElem?_map, List.getElem?_range hlt2, hb]
              rfl
            rw [hrow] at hat
            subst hA
            obtain ⟨lb, hlb⟩ : ∃ lb, lb = b.length := ⟨_, rfl⟩
            have HLB := Aside0.mk hlb
            rw [← hlb] at hat
            have HAT := Aside0.mk hat
            clear hb hrd hrow hat hlb
            go_upto_region 23 with (go_at_call 30; refine HRDi.out.mono ?_; rintro e w12 ⟨v12, rfl, h1, h2, h3, h4⟩; have HD12 := Aside0.mk h1; have HB12 := Aside0.mk h2; have HV12 := Aside0.mk (HVi.out.keep h3); have HK12 := Aside0.mk (HKi.out.trans h3.w); obtain ⟨A12, c12, e12⟩ := Kd.R_slice h4; rw [show ((d2, b, (0 : Int)).2.1).length = lb from HLB.out.symm] at e12; subst e12; have HC12 := Aside0.mk (show Kd.C byteK w12 A12 lb b by have h := (Kd.R_reads' h4).2.2; rw [HLB.out]; exact h); clear h1 h2 h3 h4)
            have hdr : Below w12.heap.size w12 w12.drew := below_drew (Below.refl _ _)
            refine start_ (n := 12) (S := fun w' => Kd.C byteK w' A12 lb b ∧ w'.cell? (ad.add i) = some (.slice A1 lb c1) ∧ Kd.C byteK w' A1 lb b ∧ Below w12.heap.size w12 w') (ds := []) #[false, false, false, false, false, false, false, false, false, false, false, false] (by kernel_rfl) rfl rfl ⟨Kd.C_below HC12.out hdr, (HAT.out _ (HK12.out.trans (KeepW.of_below hdr))).1, (HAT.out _ (HK12.out.trans (KeepW.of_below hdr))).2, hdr⟩ (fun hHeld => ?_)
            generalize w12.drew = wD at hdr hHeld ⊢
            refine pure_ (i := 0) (N := some 98) (v := ?_) (a' := ?_) #[true, false, false, false, false, false, false, false, false, false, false, false] rfl rfl (by kernel_rfl) (fun _ _ _ h => h) (Or.inl ⟨by rfl, ?_⟩) ?_ ?_
            rotate_left
            · intro w'
              go_simp
              with_reducible rfl
            rotate_left
            · simp only [Act.put, List.setIfInBounds_toArray, List.set_cons_zero, List.set_cons_succ]
              rfl
            refine pure_ (i := 1) (N := some 99) (v := ?_) (a' := ?_) #[true, true, false, false, false, false, false, false, false, false, false, false] rfl rfl (by kernel_rfl) (fun _ _ _ h => h) (Or.inl ⟨by rfl, ?_⟩) ?_ ?_
            rotate_left
            · intro w'
              go_simp
              with_reducible rfl
            rotate_left
            · simp only [Act.put, List.setIfInBounds_toArray, List.set_cons_zero, List.set_cons_succ]
              rfl
            refine pure_ (i := 2) (N := some 100) (v := ?_) (a' := ?_) #[true, true, true, false, false, false, false, false, false, false, false, false] rfl rfl (by kernel_rfl) (fun _ _ _ h => h) (Or.inl ⟨by rfl, ?_⟩) ?_ ?_
            rotate_left
            · intro w'
              go_simp
              with_reducible rfl
            rotate_left
            · simp only [Act.put, List.setIfInBounds_toArray, List.set_cons_zero, List.set_cons_succ]
              rfl
            refine pure_ (i := 3) (N := some 101) (v := ?_) (a' := ?_) #[true, true, true, true, false, false, false, false, false, false, false, false] rfl rfl (by kernel_rfl) (fun _ _ _ h => h) (Or.inl ⟨by rfl, ?_⟩) ?_ ?_
            rotate_left
            · intro w'
              go_simp
              with_reducible rfl
            rotate_left
            · simp only [Act.put, List.setIfInBounds_toArray, List.set_cons_zero, List.set_cons_succ]
              rfl
            refine take_ (i := 4) (N := some 102) (v := .string (strOfNums b)) (a' := ?_) #[true, true, true, true, true, false, false, false, false, false, false, false] rfl rfl (by kernel_rfl) (fun _ _ _ h => h) (Or.inl ⟨by rfl, ?_⟩) hHeld ?_ ?_
            · intro w' s0
              exact exec_conv (x := .tmp 101) rfl rfl (bytes_string (c := c12) s0.1)
            rotate_left
            · simp only [Act.put, List.setIfInBounds_toArray, List.set_cons_zero, List.set_cons_succ]
              rfl
            refine pure_ (i := 5) (N := some 103) (v := ?_) (a' := ?_) #[true, true, true, true, true, true, false, false, false, false, false, false] rfl rfl (by kernel_rfl) (fun _ _ _ h => h) (Or.inl ⟨by rfl, ?_⟩) ?_ ?_
            rotate_left
            · intro w'
              go_simp
              with_reducible rfl
            rotate_left
            · simp only [Act.put, List.setIfInBounds_toArray, List.set_cons_zero, List.set_cons_succ]
              rfl
            refine pure_ (i := 6) (N := some 104) (v := ?_) (a' := ?_) #[true, true, true, true, true, true, true, false, false, false, false, false] rfl rfl (by kernel_rfl) (fun _ _ _ h => h) (Or.inl ⟨by rfl, ?_⟩) ?_ ?_
            rotate_left
            · intro w'
              go_simp
              with_reducible rfl
            rotate_left
            · simp only [Act.put, List.setIfInBounds_toArray, List.set_cons_zero, List.set_cons_succ]
              rfl
            refine pure_ (i := 7) (N := some 105) (v := .pointer (some (ad.add i))) (a' := ?_) #[true, true, true, true, true, true, true, true, false, false, false, false] rfl rfl (by kernel_rfl) (fun _ _ _ h => h) (Or.inl ⟨by rfl, ?_⟩) ?_ ?_
            · intro w'
              first | (go_simp; done) | (go_simp; rw [if_pos (show i < k by omega)])
            rotate_left
            · simp only [Act.put, List.setIfInBounds_toArray, List.set_cons_zero, List.set_cons_succ]
              rfl
            refine take_ (i := 8) (N := some 106) (v := ?_) (a' := ?_) #[true, true, true, true, true, true, true, true, true, false, false, false] rfl rfl (by kernel_rfl) (fun _ _ _ h => h) (Or.inl ⟨by rfl, ?_⟩) hHeld ?_ ?_
            rotate_left
            · intro w' s0
              have s1 := s0.2.1
              go_simp
              with_reducible rfl
            rotate_left
            · simp only [Act.put, List.setIfInBounds_toArray, List.set_cons_zero, List.set_cons_succ]
              rfl
            refine take_ (i := 9) (N := some 107) (v := .string (strOfNums b)) (a' := ?_) #[true, true, true, true, true, true, true, true, true, true, false, false] rfl rfl (by kernel_rfl) (fun _ _ _ h => h) (Or.inl ⟨by rfl, ?_⟩) hHeld ?_ ?_
            · intro w' s0
              exact exec_conv (x := .tmp 106) rfl rfl (bytes_string (c := c1) s0.2.2.1)
            rotate_left
            · simp only [Act.put, List.setIfInBounds_toArray, List.set_cons_zero, List.set_cons_succ]
              rfl
            refine pure_ (i := 10) (N := some 108) (v := .bool false) (a' := ?_) #[true, true, true, true, true, true, true, true, true, true, true, false] rfl rfl (by kernel_rfl) (fun _ _ _ h => h) (Or.inl ⟨by rfl, ?_⟩) ?_ ?_
            · intro w'
              first | (go_simp; done) | (go_simp; simp)
            rotate_left
            · simp only [Act.put, List.setIfInBounds_toArray, List.set_cons_zero, List.set_cons_succ]
              rfl
            refine pure_ (i := 11) (N := some 109) (v := ?_) (a' := ?_) #[true, true, true, true, true, true, true, true, true, true, true, true] rfl rfl (by kernel_rfl) (fun _ _ _ h => h) (Or.inl ⟨by rfl, ?_⟩) ?_ ?_
            rotate_left
            · intro w'
              go_simp
              with_reducible rfl
            rotate_left
            · simp only [Act.put, List.setIfInBounds_toArray, List.set_cons_zero, List.set_cons_succ]
              rfl
            refine done_ (by kernel_rfl) ?_
            have HW13 := hHeld
            go_wp2
            go_roundw
            case rel => exact ⟨i + 1, by omega, by go_num, ⟨HD12.out.below HW13.2.2.2⟩, ⟨HV12.out.below HW13.2.2.2⟩, ⟨HB12.out.trans (HW13.2.2.2.mono HB12.out.size)⟩, ⟨HK12.out.trans (KeepW.of_below HW13.2.2.2)⟩⟩
            case measure => simp [intOf]; omega
          · obtain rfl : i = k := by omega
            have g2 : decide ((i : Int) < i) = false := decide_eq_false (by omega)
            go_wp2_with (go_at_call 15; refine (lives_c wr).mono ?_; rintro e w20 ⟨rfl, h1⟩; have HB20 := Aside0.mk (HBi.out.trans (h1.mono HBi.out.size)); clear h1)
            go_ret
            exact ⟨rfl, HB4.out.trans (HB20.out.mono HWB.out)⟩
  · have f1 : decide ((40000 : Int) < L) = false := decide_eq_false (by omega)
    have hm4 : L = m := by omega
    clear hm hbig
    go_upto_region 4 with fail
    rw [hm4]
    clear hm4
    go_upto_region 5 with (first
      | ((with_reducible refine gate_dst (N := 27) rfl ?_); refine Kd.R_lit byteK (w0 := W) W.heap.size 5 ?hg (N := 27) ?hd (xs := ([] : List Int)) (inner := []) (ok := tt) (okp := tt) ?hr ?hp (fun _ hk => hk) trivial (Below.refl _ _) (Nat.le_refl _) (by simp) ?_; (case hd => rfl); (case hg => rfl); (case hr => first | (go_simp; done) | (go_simp; rfl)); (case hp => exact (Reps.none _ _)); intro v3 w3 ho hb hg_ hnew_; clear hg_ hnew_; have HO := Aside0.mk ho; have HB3 := Aside0.mk hb; clear hb ho)
      | ((with_reducible refine gate_dst (N := 29) rfl ?_); at_builtin; refine Kd.R_append_rows byteK (w0 := W) W.heap.size rfl (.tmp 27) (.tmp 28) 56 5 (.int .u8 0) 1 rfl Try.underlying56 INF.out rfl (by decide) (by decide) v3 [] im A m ci tt (fun _ => False) rfl rfl HO.out (Kd.C_below HCI.out HB3.out) (fun _ _ h => h) (fun _ h => h.elim) (fun _ _ => trivial) HB3.out HB3.out.size ?hl ?_; (case hl => simp; omega); intro v4 w4 ho hb hG hat; rw [List.nil_append] at ho; have HR4 := Aside0.mk ho; have HB4 := Aside0.mk hb; obtain ⟨A4, c4, e4⟩ := Kd.R_slice ho; rw [HML.out] at e4; subst e4; clear ho hb hG hat)
      | (go_at_call 28; refine (HLOAD.out w4 A4 c4 HR4.out).mono ?_; rintro e w5 ⟨g, rfl, h1, h2⟩; have HD5 := Aside0.mk h1; have HB5 := Aside0.mk h2; clear h1 h2))
    obtain ⟨d, hd⟩ : ∃ d : D, d = loadDTo n im (loadN n m) := ⟨_, rfl⟩
    rw [← hd] at HD5
    obtain ⟨q1, q2, q3, q4, q5⟩ := loadDTo_same n im (loadN n m)
    rw [← hd] at q1 q2 q3 q4 q5
    have hdn : d.n = (n : Int) := by rw [q1]; unfold clampN; rw [if_neg (by omega), if_neg (by omega)]
    have hdc : d.cnt ≤ 4096 := by rw [q5]; unfold loadN; have := clamp_bounds n; omega
    obtain ⟨d1, d2, s, ho1, ho2, hn1, hn2, hc1, hc2, hrd⟩ := open_twice (d := d) ⟨q3, q4⟩ q2 (by rw [hdn]; omega) (sec_of HD5.out)
    have HO1 := Aside0.mk (And.intro ho1 ho2)
    have HCN := Aside0.mk (show d.cnt ≤ 4096 ∧ d1.cnt ≤ 5000 ∧ d2.cnt ≤ 5000 by omega)
    have HN1 := Aside0.mk (show d1.n = (n : Int) ∧ d2.n = (n : Int) by rw [hn1, hn2, hdn]; exact ⟨rfl, rfl⟩)
    have HRD := Aside0.mk (show ∀ i : Nat, i < n - 64 → readW d1 (i : Int) = (d1, (readW d1 (i : Int)).2.1, 0) ∧ readW d2 (i : Int) = (d2, (readW d1 (i : Int)).2.1, 0) from fun i hi => by
      obtain ⟨b, h1, h2⟩ := hrd i (by rw [hdn]; omega)
      rw [h1]
      exact ⟨rfl, h2⟩)
    have hwB : W.heap.size ≤ w4.heap.size := HB4.out.size
    have HWB := Aside0.mk hwB
    clear hd q1 q2 q3 q4 q5 hdn hdc ho1 ho2 hn1 hn2 hc1 hc2 hrd hwB
    go_upto_region 6 with (go_at_call 17; refine (open_c w4.heap.size g d w4 w5 HD5.out HB5.out (Nat.le_refl _) (by have := HCN.out.1; omega)).mono ?_; rintro e w6 ⟨v6, rfl, h1, h2, h3, _, h5⟩; rw [HO1.out.1] at h1 h5 ⊢; obtain ⟨gw, rfl, hg, hw⟩ := h5 rfl; have HD6 := Aside0.mk h1; have HB6 := Aside0.mk h2; have HW6 := Aside0.mk hw; clear h1 h2 h3 h5 hg hw)
    have hpm := pagesm_c HW6.out HD6.out
    rw [show (d1, s, (0 : Int)).1.n - 64 = ((n - 64 : Nat) : Int) by show d1.n - 64 = _; rw [HN1.out.1]; omega] at hpm
    have HPM := Aside0.mk hpm
    obtain ⟨N, hN⟩ : ∃ N, N = n - 64 := ⟨_, rfl⟩
    rw [← hN] at HPM HRD
    have hNn : (n : Int) - 64 = (N : Int) := by omega
    have hNb : N ≤ 8 := by omega
    clear hpm hN
    go_upto_region 9 with (first
      | (go_at_call 29; refine HPM.out.mono ?_; rintro e W6 ⟨rfl, hw6⟩; cases hw6)
      | ((with_reducible refine gate_dst (N := 49) rfl ?_); refine Kd.R_lit rowK (w0 := w4) w4.heap.size 56 ?hg (N := 49) ?hd (xs := ([] : List (List Int))) (inner := []) (ok := tt) (okp := tt) ?hr ?hp (fun _ hk => hk) trivial HB6.out HB6.out.size (by simp) ?_; (case hd => rfl); (case hg => rfl); (case hr => first | (go_simp; done) | (go_simp; rfl)); (case hp => exact (Reps.none _ _)); intro v7 w7 ho hb hg_ hnew_; have HO7 := Aside0.mk ho; have HB7 := Aside0.mk hb; have HG7 := Aside0.mk hg_; clear hb ho hg_ hnew_))
    have hD7 := HD6.out.grown HG7.out (fun k e => by cases e)
    have hW7 : IsWl w7 gw g s := (HG7.out.block gw (blk_lt HW6.out) (by simp)).trans HW6.out
    have HD7 := Aside0.mk hD7
    have HW7 := Aside0.mk hW7
    clear hD7 hW7
    go_wp2_with fail
    go_loopw [9, 10] (fun y x wr => ∃ (k : Nat), k ≤ N ∧ x = .int .i64 k ∧ Aside0 (Kd.R rowK 56 wr w4.heap.size tt y ((List.range k).map (fun i => (readW d1 ((i : Nat) : Int)).2.1))) ∧ Aside0 (IsD w4.heap.size wr g d1) ∧ Aside0 (IsWl wr gw g s) ∧ Aside0 (Below w4.heap.size w4 wr)) (fun _ x _ => N - (intOf x).toNat)
    case atStart => exact ⟨0, Nat.zero_le _, rfl, HO7, HD7, HW7, HB7⟩
    case round =>
      obtain ⟨k, hk, rfl, HRk, HDk, HWk, HBk⟩ := hrel
      obtain ⟨yA, yc, hy⟩ := Kd.R_slice HRk.out
      subst hy
      rw [List.length_map, List.length_range] at HRk ⊢
      by_cases hlt : k < N
      · have g1 : decide ((k : Int) < N) = true := decide_eq_true (by omega)
        have hrd := wread_c w4.heap.size gw g s d1 (k : Int) ⟨by omega, by omega⟩ w4 wr HWk.out HDk.out HBk.out (by have := HCN.out.2.1; omega)
        rw [(HRD.out k hlt).1] at hrd
        obtain ⟨b, hb⟩ : ∃ b, b = (readW d1 (k : Int)).2.1 := ⟨_, rfl⟩
        rw [← hb] at hrd
        have HBE := Aside0.mk hb
        have HRDk := Aside0.mk hrd
        have HLTR := Aside0.mk (Kd.R_lt HRk.out)
        have HWRS := Aside0.mk HBk.out.size
        obtain ⟨lb, hlb⟩ : ∃ lb, lb = b.length := ⟨_, rfl⟩
        have HLB := Aside0.mk hlb
        clear hb hrd hlb
        go_wp2_with (first
          | (go_at_call 30; refine HRDk.out.mono ?_; rintro e w8 ⟨v8, rfl, h1, h2, h3, h4⟩; have HD8 := Aside0.mk h1; have HB8 := Aside0.mk h2; have HW8 := Aside0.mk (HWk.out.keep h3); have HR8 := Aside0.mk (R_keep HRk.out h3.w (by intro q hq; simp [Kd.slice, Kd.int, Kd.scalar] at hq; omega)); have HV8 := Aside0.mk (Kd.R_mono (ok' := fun q => wr.heap.size ≤ q) (Kd.R_bound h4) (fun q hq => hq.2.1)); obtain ⟨A8, c8, e8⟩ := Kd.R_slice h4; rw [show ((d1, b, (0 : Int)).2.1).length = lb from HLB.out.symm] at e8; subst e8; clear h1 h2 h3 h4)
          | ((with_reducible refine gate_dst (N := 67) rfl ?_); at_builtin; refine Kd.R_append rowK (w0 := w4) (W := w8) w4.heap.size rfl (.tmp 64) (.tmp 66) 24 56 (.slice none 0 0) 24 rfl Try.underlying24 INF2.out rfl (by decide) (by decide) (.slice yA k yc) ((List.range k).map (fun i => (readW d1 ((i : Nat) : Int)).2.1)) b [.slice A8 lb c8] tt (fun q => wr.heap.size ≤ q) rfl rfl ⟨_, rfl, Kd.R_lower HV8.out HWRS.out⟩ (fun q hq => ⟨trivial, fun e => Nat.not_lt.2 hq (HLTR.out q e.symm)⟩) (fun _ _ => trivial) HR8.out HB8.out HB8.out.size ?hl ?_; (case hl => simp; omega); intro v9 w9 ho hb hG hat; have HO9 := Aside0.mk ho; have HB9 := Aside0.mk hb; have HG9 := Aside0.mk hG; clear ho hb hG hat))
        go_roundw
        case rel => exact ⟨k + 1, by omega, by go_num, ⟨by rw [List.range_succ, List.map_append, List.map_cons, List.map_nil, ← HBE.out]; exact HO9.out⟩, ⟨HD8.out.grown HG9.out (row_typed HR8.out (by decide) (by decide))⟩, ⟨(HG9.out.block gw (blk_lt HW8.out) (Kd.R_ne HR8.out HW8.out (by decide))).trans HW8.out⟩, HB9⟩
        case measure => simp [intOf]; omega
      · obtain rfl : k = N := by omega
        have g1 : decide ((k : Int) < k) = false := decide_eq_false (by omega)
        have HOP := Aside0.mk (open_c w4.heap.size g d1 w4 wr HDk.out HBk.out (Nat.le_refl _) (by have := HCN.out.2.1; omega))
        go_upto_region 17 with (go_at_call 17; refine HOP.out.mono ?_; rintro e w10 ⟨v10, rfl, h1, h2, h3, _, h5⟩; rw [HO1.out.2] at h1 h5 ⊢; obtain ⟨gv, rfl, hg, hw⟩ := h5 rfl; have HD10 := Aside0.mk h1; have HB10 := Aside0.mk h2; have HV10 := Aside0.mk hw; have HW10 := Aside0.mk (HWk.out.keep h3); have HR10 := Aside0.mk (R_keep HRk.out h3.w (by intro q hq; simp [Kd.slice, Kd.int, Kd.scalar] at hq; omega)); clear h1 h2 h3 h5 hg hw)
        obtain ⟨Ay, cy, hey, _, hsc⟩ := scL_of_R HR10.out
        injection hey with ey1 ey2 ey3
        subst ey1
        rw [List.length_map, List.length_range] at hsc
        have HSC := Aside0.mk hsc
        clear hsc ey2 ey3
        go_wp2_with (go_at_call 24; first
          | (refine (seq_c HV10.out).mono ?_; rintro e W10 ⟨rfl, hw10⟩; cases hw10)
          | (refine (seq_c HW10.out).mono ?_; rintro e W10 ⟨rfl, hw10⟩; cases hw10))
        have HKZ := Aside0.mk (KeepW.refl w10)
        go_loopw [14] (fun x wr => ∃ (i : Nat), i ≤ k ∧ x = .int .i64 i ∧ Aside0 (IsD w4.heap.size wr g d2) ∧ Aside0 (IsWl wr gv g s) ∧ Aside0 (Below w4.heap.size w4 wr) ∧ Aside0 (KeepW w10 wr)) (fun x _ => k - (intOf x).toNat)
        case atStart => exact ⟨0, Nat.zero_le _, rfl, HD10, HV10, HB10, HKZ⟩
        case round =>
          obtain ⟨i, hi, rfl, HDi, HVi, HBi, HKi⟩ := hrel
          by_cases hlt2 : i < k
          · have g2 : decide ((i : Int) < k) = true := decide_eq_true (by omega)
            have hrd := wread_c w4.heap.size gv g s d2 (i : Int) ⟨by omega, by omega⟩ w4 wr HVi.out HDi.out HBi.out (by have := HCN.out.2.2; omega)
            rw [(HRD.out i hlt2).2] at hrd
            obtain ⟨b, hb⟩ : ∃ b, b = (readW d1 (i : Int)).2.1 := ⟨_, rfl⟩
            rw [← hb] at hrd
            have HRDi := Aside0.mk hrd
            obtain ⟨ad, A1, c1, hA, _, hat⟩ := HSC.out.at_ i hlt2
            have hrow : ((List.range k).map (fun i => (readW d1 ((i : Nat) : Int)).2.1)).getD i [] = b := by
              rw [List.getD_eq_getElem?_getD, List.getElem?_map, List.getElem?_range hlt2, hb]
              rfl
            rw [hrow] at hat
            subst hA
            obtain ⟨lb, hlb⟩ : ∃ lb, lb = b.length := ⟨_, rfl⟩
            have HLB := Aside0.mk hlb
            rw [← hlb] at hat
            have HAT := Aside0.mk hat
            clear hb hrd hrow hat hlb
            go_upto_region 23 with (go_at_call 30; refine HRDi.out.mono ?_; rintro e w12 ⟨v12, rfl, h1, h2, h3, h4⟩; have HD12 := Aside0.mk h1; have HB12 := Aside0.mk h2; have HV12 := Aside0.mk (HVi.out.keep h3); have HK12 := Aside0.mk (HKi.out.trans h3.w); obtain ⟨A12, c12, e12⟩ := Kd.R_slice h4; rw [show ((d2, b, (0 : Int)).2.1).length = lb from HLB.out.symm] at e12; subst e12; have HC12 := Aside0.mk (show Kd.C byteK w12 A12 lb b by have h := (Kd.R_reads' h4).2.2; rw [HLB.out]; exact h); clear h1 h2 h3 h4)
            have hdr : Below w12.heap.size w12 w12.drew := below_drew (Below.refl _ _)
            refine start_ (n := 12) (S := fun w' => Kd.C byteK w' A12 lb b ∧ w'.cell? (ad.add i) = some (.slice A1 lb c1) ∧ Kd.C byteK w' A1 lb b ∧ Below w12.heap.size w12 w') (ds := []) #[false, false, false, false, false, false, false, false, false, false, false, false] (by kernel_rfl) rfl rfl ⟨Kd.C_below HC12.out hdr, (HAT.out _ (HK12.out.trans (KeepW.of_below hdr))).1, (HAT.out _ (HK12.out.trans (KeepW.of_below hdr))).2, hdr⟩ (fun hHeld => ?_)
            generalize w12.drew = wD at hdr hHeld ⊢
            refine pure_ (i := 0) (N := some 98) (v := ?_) (a' := ?_) #[true, false, false, false, false, false, false, false, false, false, false, false] rfl rfl (by kernel_rfl) (fun _ _ _ h => h) (Or.inl ⟨by rfl, ?_⟩) ?_ ?_
            rotate_left
            · intro w'
              go_simp
              with_reducible rfl
            rotate_left
            · simp only [Act.put, List.setIfInBounds_toArray, List.set_cons_zero, List.set_cons_succ]
              rfl
            refine pure_ (i := 1) (N := some 99) (v := ?_) (a' := ?_) #[true, true, false, false, false, false, false, false, false, false, false, false] rfl rfl (by kernel_rfl) (fun _ _ _ h => h) (Or.inl ⟨by rfl, ?_⟩) ?_ ?_
            rotate_left
            · intro w'
              go_simp
              with_reducible rfl
            rotate_left
            · simp only [Act.put, List.setIfInBounds_toArray, List.set_cons_zero, List.set_cons_succ]
              rfl
            refine pure_ (i := 2) (N := some 100) (v := ?_) (a' := ?_) #[true, true, true, false, false, false, false, false, false, false, false, false] rfl rfl (by kernel_rfl) (fun _ _ _ h => h) (Or.inl ⟨by rfl, ?_⟩) ?_ ?_
            rotate_left
            · intro w'
              go_simp
              with_reducible rfl
            rotate_left
            · simp only [Act.put, List.setIfInBounds_toArray, List.set_cons_zero, List.set_cons_succ]
              rfl
            refine pure_ (i := 3) (N := some 101) (v := ?_) (a' := ?_) #[true, true, true, true, false, false, false, false, false, false, false, false] rfl rfl (by kernel_rfl) (fun _ _ _ h => h) (Or.inl ⟨by rfl, ?_⟩) ?_ ?_
            rotate_left
            · intro w'
              go_simp
              with_reducible rfl
            rotate_left
            · simp only [Act.put, List.setIfInBounds_toArray, List.set_cons_zero, List.set_cons_succ]
              rfl
            refine take_ (i := 4) (N := some 102) (v := .string (strOfNums b)) (a' := ?_) #[true, true, true, true, true, false, false, false, false, false, false, false] rfl rfl (by kernel_rfl) (fun _ _ _ h => h) (Or.inl ⟨by rfl, ?_⟩) hHeld ?_ ?_
            · intro w' s0
              exact exec_conv (x := .tmp 101) rfl rfl (bytes_string (c := c12) s0.1)
            rotate_left
            · simp only [Act.put, List.setIfInBounds_toArray, List.set_cons_zero, List.set_cons_succ]
              rfl
            refine pure_ (i := 5) (N := some 103) (v := ?_) (a' := ?_) #[true, true, true, true, true, true, false, false, false, false, false, false] rfl rfl (by kernel_rfl) (fun _ _ _ h => h) (Or.inl ⟨by rfl, ?_⟩) ?_ ?_
            rotate_left
            · intro w'
              go_simp
              with_reducible rfl
            rotate_left
            · simp only [Act.put, List.setIfInBounds_toArray, List.set_cons_zero, List.set_cons_succ]
              rfl
            refine pure_ (i := 6) (N := some 104) (v := ?_) (a' := ?_) #[true, true, true, true, true, true, true, false, false, false, false, false] rfl rfl (by kernel_rfl) (fun _ _ _ h => h) (Or.inl ⟨by rfl, ?_⟩) ?_ ?_
            rotate_left
            · intro w'
              go_simp
              with_reducible rfl
            rotate_left
            · simp only [Act.put, List.setIfInBounds_toArray, List.set_cons_zero, List.set_cons_succ]
              rfl
            refine pure_ (i := 7) (N := some 105) (v := .pointer (some (ad.add i))) (a' := ?_) #[true, true, true, true, true, true, true, true, false, false, false, false] rfl rfl (by kernel_rfl) (fun _ _ _ h => h) (Or.inl ⟨by rfl, ?_⟩) ?_ ?_
            · intro w'
              first | (go_simp; done) | (go_simp; rw [if_pos (show i < k by omega)])
            rotate_left
            · simp only [Act.put, List.setIfInBounds_toArray, List.set_cons_zero, List.set_cons_succ]
              rfl
            refine take_ (i := 8) (N := some 106) (v := ?_) (a' := ?_) #[true, true, true, true, true, true, true, true, true, false, false, false] rfl rfl (by kernel_rfl) (fun _ _ _ h => h) (Or.inl ⟨by rfl, ?_⟩) hHeld ?_ ?_
            rotate_left
            · intro w' s0
              have s1 := s0.2.1
              go_simp
              with_reducible rfl
            rotate_left
            · simp only [Act.put, List.setIfInBounds_toArray, List.set_cons_zero, List.set_cons_succ]
              rfl
            refine take_ (i := 9) (N := some 107) (v := .string (strOfNums b)) (a' := ?_) #[true, true, true, true, true, true, true, true, true, true, false, false] rfl rfl (by kernel_rfl) (fun _ _ _ h => h) (Or.inl ⟨by rfl, ?_⟩) hHeld ?_ ?_
            · intro w' s0
              exact exec_conv (x := .tmp 106) rfl rfl (bytes_string (c := c1) s0.2.2.1)
            rotate_left
            · simp only [Act.put, List.setIfInBounds_toArray, List.set_cons_zero, List.set_cons_succ]
              rfl
            refine pure_ (i := 10) (N := some 108) (v := .bool false) (a' := ?_) #[true, true, true, true, true, true, true, true, true, true, true, false] rfl rfl (by kernel_rfl) (fun _ _ _ h => h) (Or.inl ⟨by rfl, ?_⟩) ?_ ?_
            · intro w'
              first | (go_simp; done) | (go_simp; simp)
            rotate_left
            · simp only [Act.put, List.setIfInBounds_toArray, List.set_cons_zero, List.set_cons_succ]
              rfl
            refine pure_ (i := 11) (N := some 109) (v := ?_) (a' := ?_) #[true, true, true, true, true, true, true, true, true, true, true, true] rfl rfl (by kernel_rfl) (fun _ _ _ h => h) (Or.inl ⟨by rfl, ?_⟩) ?_ ?_
            rotate_left
            · intro w'
              go_simp
              with_reducible rfl
            rotate_left
            · simp only [Act.put, List.setIfInBounds_toArray, List.set_cons_zero, List.set_cons_succ]
              rfl
            refine done_ (by kernel_rfl) ?_
            have HW13 := hHeld
            go_wp2
            go_roundw
            case rel => exact ⟨i + 1, by omega, by go_num, ⟨HD12.out.below HW13.2.2.2⟩, ⟨HV12.out.below HW13.2.2.2⟩, ⟨HB12.out.trans (HW13.2.2.2.mono HB12.out.size)⟩, ⟨HK12.out.trans (KeepW.of_below HW13.2.2.2)⟩⟩
            case measure => simp [intOf]; omega
          · obtain rfl : i = k := by omega
            have g2 : decide ((i : Int) < i) = false := decide_eq_false (by omega)
            go_wp2_with (go_at_call 15; refine (lives_c wr).mono ?_; rintro e w20 ⟨rfl, h1⟩; have HB20 := Aside0.mk (HBi.out.trans (h1.mono HBi.out.size)); clear h1)
            go_ret
            exact ⟨rfl, HB4.out.trans (HB20.out.mono HWB.out)⟩
end Go.Proofs.Ytmghgghheebnjaa.Dis
