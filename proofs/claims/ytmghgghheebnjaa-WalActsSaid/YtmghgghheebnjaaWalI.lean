/- Wal: DeleteFunc, walked by hand. -/
import Derived.Test.YtmghgghheebnjaaWalH
namespace Go.Proofs.Ytmghgghheebnjaa.Dis
open Go.RowKit Go.Proofs.YtmghgghheebnjaaW.PrintWords Go.Proofs.YtmghgghheebnjaaW.PrintLast Go.Proofs.YtmghgghheebnjaaW.PrintMore Go.Maps Go.Proofs.Ytmghgghheebnjaa.PWalRecords
set_option linter.unusedVariables false
set_option linter.unusedSimpArgs false
theorem own_at {W : World} {base n c : Nat} {ok : Nat → Prop} {A : Option Addr} {xs : List S58} (h : Kd.R k58 58 W base ok (.slice A n c) xs) (h0 : 0 < n) : ∃ g, A = some ⟨g, 0, none⟩ := by
  obtain ⟨_, inner, hown, _⟩ := h
  rcases hown.2 with ⟨hv, _⟩ | ⟨g, cap, cur, hv, _⟩
  · injection hv with _ h1; omega
  · injection hv with ha; exact ⟨g, ha⟩
theorem take_snoc {α : Type} (l : List α) (z : α) (j : Nat) (h : j < l.length) : l.take (j + 1) = l.take j ++ [l.getD j z] := by
  rw [List.getD_eq_getElem?_getD, List.getElem?_eq_getElem h]
  exact (List.take_append_getElem h).symm
theorem filter_start {P : S58 → Bool} {l : List S58} {k : Nat} (hk : k < l.length) (h1 : P (l.getD k z58) = true) (h2 : ∀ j, j < k → P (l.getD j z58) = false) : l.take k = (l.take (k + 1)).filter (fun p => !P p) := by
  rw [take_snoc l z58 k hk, List.filter_append, List.filter_cons_of_neg (by show ¬ (!P (l.getD k z58)) = true; rw [h1]; decide), List.filter_nil, List.append_nil]
  symm
  rw [List.filter_eq_self]
  intro p hp
  obtain ⟨j, hj, rfl⟩ := List.getElem_of_mem hp
  rw [List.length_take] at hj
  have h3 := h2 j (by omega)
  rw [List.getD_eq_getElem?_getD, List.getElem?_eq_getElem (by omega)] at h3
  rw [List.getElem_take]
  simpa using h3
theorem take_set_eq (xs : List S58) (i : Nat) (x : S58) (h : i < xs.length) : (xs.set i x).take (i + 1) = xs.take i ++ [x] := by
  rw [take_snoc _ z58 i (by rw [List.length_set]; exact h), List.take_set_of_le (Nat.le_refl i)]
  congr 1
  rw [List.getD_eq_getElem?_getD, List.getElem?_set_self h]
  rfl
theorem cells2 {w : World} {g i : Nat} {u v : Value} (h : w.cell? ⟨g, i * 2, none⟩ = some u ∧ w.cell? ⟨g, i * 2 + 1, none⟩ = some v) : ∀ (t : Nat) (x : Value), ([u, v] : List Value)[t]? = some x → w.cell? ⟨g, i * 2 + t, none⟩ = some x := by
  intro t x hx
  match t, hx with
  | 0, hx => simp at hx; subst hx; exact h.1
  | 1, hx => simp at hx; subst hx; exact h.2
set_option maxHeartbeats 8000000 in
set_option maxRecDepth 100000 in
theorem delete_c {base gw g gb : Nat} {seq : Int} {d : D} (w0 W : World) (A : Option Addr) (n c : Nat) (l : List S58) (hR : Kd.R k58 58 W w0.heap.size tt (.slice A n c) l) (hB : Below w0.heap.size w0 W)
    (hb : w0.heap[gb]? = some (.cells #[.pointer (some ⟨gw, 0, none⟩)] 39 (0, 0))) (hw : IsWl w0 gw g seq) (h : IsD base w0 g d) (hn : n ≤ 1000) :
    Calls Try.prog 46 #[.slice A n c, .func (.func 47) #[] #[.pointer (some ⟨gb, 0, none⟩)]] W fun e w' => ∃ (m c' : Nat) (A' : Option Addr), e = .returned (.slice A' m c') ∧ PgL w' A' m (l.filter (fun p => thereB d.n p.f0)) ∧ Below w0.heap.size w0 w' := by
  have hl := Kd.R_reads' hR
  have HI := Aside0.mk (index47_c (c := c) (A := A) (n := n) (l := l) (by rw [hl.1]; exact hl.2.2) (by omega) (blk_below hb hB) (hw.below hB) (h.below hB))
  have HR := Aside0.mk hR
  have HB := Aside0.mk hB
  have HL := Aside0.mk hl
  have HCL := Aside0.mk (fun (w : World) (hB : Below w0.heap.size w0 w) (no : Int) (A1 : Option Addr) (n1 c1 : Nat) => open1_c w no A1 n1 c1 (blk_below hb hB) (hw.below hB) (h.below hB))
  have hnc := hl.2.1
  clear hR hB hb hw h hl
  obtain ⟨F, hF⟩ : ∃ F, F = l.filter (fun p => thereB d.n p.f0) := ⟨_, rfl⟩
  rw [← hF]
  have HF := Aside0.mk hF
  clear hF
  go_enter Try.func46, Try.ntmps46
  go_upto_region 2 with (go_at_call 70; refine HI.out.mono ?_; rintro e w1 ⟨r, rfl, h1, h2⟩; have HX := Aside0.mk h1; have HB1 := Aside0.mk (HB.out.trans (h2.mono HB.out.size)); have HR1 := Aside0.mk (Kd.R_below HR.out h2); clear h1 h2)
  rcases HX.out with ⟨hr, hall⟩ | ⟨k, hk, hr, hP, hall⟩
  · subst hr
    have hf : l.filter (fun p => thereB d.n p.f0) = l := List.filter_eq_self.2 (fun p hp => by have := hall p hp; simpa using this)
    have HF2 := Aside0.mk (HF.out.trans hf)
    clear hall hf
    go_wp2
    go_ret
    obtain ⟨A', c', he, _, hpg⟩ := pgL_of_R HR1.out
    injection he with e1 e2 e3
    subst e1
    exact ⟨n, c, A, rfl, by rw [HF2.out, e2]; exact hpg, HB1.out⟩
  · subst hr
    have hkn : k < n := by rw [HL.out.1]; exact hk
    obtain ⟨gs, hA⟩ := own_at HR1.out (by omega)
    have hst := filter_start (P := fun p => !thereB d.n p.f0) hk hP hall
    obtain ⟨ad, had⟩ : ∃ ad : Addr, ad = ⟨gs, 0, none⟩ := ⟨_, rfl⟩
    rw [← had] at hA
    subst hA
    have HAD := Aside0.mk had
    have HST := Aside0.mk hst
    have HR2 := Aside0.mk (show Kd.R k58 58 w1 w0.heap.size tt (.slice (some ⟨gs, 0, none⟩) n c) l by have h := HR1.out; rw [had] at h; exact h)
    have hk1 : ((k : Int) == -1) = false := by first | (simp; done) | (simp; omega)
    have keepP : (fun p : S58 => !(!thereB d.n p.f0)) = (fun p : S58 => thereB d.n p.f0) := by funext p; simp
    have HKP := Aside0.mk keepP
    clear hP hall hst had keepP hk HR1 HX
    go_wp2_with fail
    go_loopw [5, 6] (fun y x wr => ∃ (i j : Nat) (xs : List S58), i < j ∧ j ≤ n ∧ y = .int .i64 i ∧ x = .int .i64 j ∧ Aside0 (xs.length = n) ∧ Aside0 (∀ q, j ≤ q → xs.getD q z58 = l.getD q z58) ∧ Aside0 (xs.take i = (l.take j).filter (fun p => thereB d.n p.f0)) ∧ Aside0 (Kd.R k58 58 wr w0.heap.size tt (.slice (some ⟨gs, 0, none⟩) n c) xs) ∧ Aside0 (Below w0.heap.size w0 wr)) (fun _ x _ => n - (intOf x).toNat)
    case atStart => exact ⟨k, k + 1, l, by omega, by omega, rfl, by first | rfl | go_num, ⟨HL.out.1.symm⟩, ⟨fun _ _ => rfl⟩, ⟨by rw [← HKP.out]; exact HST.out⟩, HR2, HB1⟩
    case round =>
      obtain ⟨i, j, xs, hij, hjn, rfl, rfl, HXL, HXE, HXT, HXR, HXB⟩ := hrel
      by_cases hlt : j < n
      · have f1 : decide ((j : Int) < n) = true := decide_eq_true (by omega)
        obtain ⟨A1, c1, p0, p1, hv⟩ := el58 HXR.out j hlt
        obtain ⟨Ai, ci, s0, s1, _⟩ := el58 HXR.out i (by omega)
        have hsn := take_snoc l z58 j (by rw [← HL.out.1]; exact hlt)
        rw [HXE.out j (Nat.le_refl _)] at p0 p1 hv
        obtain ⟨p, hp⟩ : ∃ p, p = l.getD j z58 := ⟨_, rfl⟩
        rw [← hp] at p0 p1 hv hsn
        have HSN := Aside0.mk hsn
        have HPJ := Aside0.mk hp
        have HSI := Aside0.mk (And.intro s0 s1)
        clear hp hsn s0 s1
        obtain ⟨no, pb⟩ := p
        dsimp only at p0 p1 hv
        obtain ⟨m, hm⟩ : ∃ m, m = pb.length := ⟨_, rfl⟩
        rw [← hm] at p1 hv
        have p0' : wr.cell? (ad.add (j * 2)) = some (.int .i64 no) := by rw [HAD.out, add0]; exact p0
        have p1' : wr.cell? ⟨(ad.add (j * 2)).block, (ad.add (j * 2)).off + 1, none⟩ = some (.slice A1 m c1) := by rw [HAD.out, add0]; exact p1
        have HV := Aside0.mk hv
        clear p0 p1 hv hm
        go_upto_region 8 with fail
        obtain ⟨w4, hw4⟩ : ∃ w4, w4 = wr.alloc (.cells #[.int .i64 no, .slice A1 m c1] 58) := ⟨_, rfl⟩
        have hb4 : Below wr.heap.size wr w4 := by rw [hw4]; exact below_alloc (Below.refl _ _) _
        have q4 : w4.heap[wr.heap.size]? = some (.cells #[.int .i64 no, .slice A1 m c1] 58 (0, 0)) := by rw [hw4]; exact blk_new wr _
        rw [← hw4]
        clear hw4
        obtain ⟨gq, hgq⟩ : ∃ gq, gq = wr.heap.size := ⟨_, rfl⟩
        rw [← hgq] at q4 ⊢
        clear hgq p0' p1'
        have HB4 := Aside0.mk (HXB.out.trans (hb4.mono HXB.out.size))
        have HR4 := Aside0.mk (Kd.R_below HXR.out hb4)
        have HV4 := Aside0.mk (Kd.R_below HV.out hb4)
        have HSI4 := Aside0.mk (And.intro ((hb4.cell (World.block_lt_of_cell? wr _ HSI.out.1)).trans HSI.out.1) ((hb4.cell (World.block_lt_of_cell? wr _ HSI.out.2)).trans HSI.out.2))
        have c0 : w4.cell? ⟨gq, 0, none⟩ = some (.int .i64 no) := (blk_cell q4 0).trans rfl
        have c1' : w4.cell? ⟨gq, 1, none⟩ = some (.slice A1 m c1) := (blk_cell q4 1).trans rfl
        have HQ4 := Aside0.mk q4
        clear hb4 q4
        have HCC := Aside0.mk (HCL.out w4 HB4.out no A1 m c1)
        obtain ⟨r, hr⟩ : ∃ r, r = thereB d.n no := ⟨_, rfl⟩
        rw [← hr] at HCC
        have HRR := Aside0.mk hr
        clear hr
        cases r with
        | false =>
          go_wp2_with (go_at_call 47; refine HCC.out.mono ?_; rintro e w5 ⟨rfl, h1⟩; have HB5 := Aside0.mk (HB4.out.trans (h1.mono HB4.out.size)); have HR5 := Aside0.mk (Kd.R_below HR4.out h1); clear h1)
          go_roundw
          case rel => exact ⟨i, j + 1, xs, by omega, by omega, rfl, by go_num, HXL, ⟨fun q hq => HXE.out q (by omega)⟩, ⟨by rw [HSN.out, List.filter_append, List.filter_cons_of_neg (by simp only; rw [← HRR.out]; decide), List.filter_nil, List.append_nil]; exact HXT.out⟩, HR5, HB5⟩
          case measure => simp [intOf]; omega
        | true =>
          go_wp2_with (first
            | (go_at_call 47; refine HCC.out.mono ?_; rintro e w5 ⟨rfl, h1⟩; have HB5 := Aside0.mk (HB4.out.trans (h1.mono HB4.out.size)); have HR5 := Aside0.mk (Kd.R_below HR4.out h1); have HV5 := Aside0.mk (Kd.R_below HV4.out h1); have HSI5 := Aside0.mk (And.intro ((h1.cell (World.block_lt_of_cell? w4 _ HSI4.out.1)).trans HSI4.out.1) ((h1.cell (World.block_lt_of_cell? w4 _ HSI4.out.2)).trans HSI4.out.2)); have hq5 := blk_below HQ4.out h1; have d0 := (blk_cell hq5 0).trans (rfl : _ = some (Value.int .i64 no)); have d1 := (blk_cell hq5 1).trans (rfl : _ = some (Value.slice A1 m c1)); clear h1 hq5)
            | ((with_reducible refine gate_store (t := 58) (p := 33) rfl ?_); refine Kd.R_store k58 (w0 := w0) w0.heap.size rfl rfl 58 (.tmp 33) (.tmp 32) rfl 58 (g := gs) (n := n) (cap := c) (o' := i * 2) (i : Int) 0 xs ⟨no, pb⟩ (.agg #[.int .i64 no, .slice A1 m c1]) [.int .i64 no, .slice A1 m c1] [.int .i64 (xs.getD i z58).f0, .slice Ai (xs.getD i z58).f1.length ci] tt (fun k => True ∧ k ≠ gs) ?ha ?ho rfl rfl ?ht ?h1 HR5.out (by omega) (by omega) rfl ?hcc (Nat.le_refl 2) ?hM (fun k hk => hk) HB5.out ?_; (case ha => show Value.pointer (some (ad.add (i * 2))) = _; rw [HAD.out, add0]); (case ho => rw [Int.toNat_natCast]; rfl); (case ht => kernel_rfl); (case h1 => intro q hq; simp at hq; rcases hq with rfl | rfl <;> rfl); (case hcc => intro t u hu; rw [Int.toNat_natCast]; exact cells2 HSI5.out t u hu); (case hM => exact k58_mkM w5 w0.heap.size (fun k => True ∧ k ≠ gs) ⟨no, pb⟩ HV5.out); intro w6 ho hb hg; rw [Int.toNat_natCast] at ho; have HO6 := Aside0.mk ho; have HB6 := Aside0.mk hb; clear ho hb hg))
          go_roundw
          case rel => exact ⟨i + 1, j + 1, xs.set i ⟨no, pb⟩, by omega, by omega, by go_num, by go_num, ⟨by rw [List.length_set]; exact HXL.out⟩, ⟨fun q hq => by rw [List.getD_eq_getElem?_getD, List.getElem?_set_ne (by omega), ← List.getD_eq_getElem?_getD]; exact HXE.out q (by omega)⟩, ⟨by rw [take_set_eq _ _ _ (by rw [HXL.out]; omega), HXT.out, HSN.out, List.filter_append, List.filter_cons_of_pos (by simp only; rw [← HRR.out]), List.filter_nil]⟩, HO6, HB6⟩
          case measure => simp [intOf]; omega
      · obtain rfl : j = n := by omega
        have f1 : decide ((j : Int) < j) = false := decide_eq_false (by omega)
        have htl := HXT.out
        have htj : l.take j = l := List.take_of_length_le (by have := HL.out.1; omega)
        rw [htj] at htl
        clear htj
        have HTL := Aside0.mk htl
        clear htl
        have hic : i ≤ c := by omega
        have HIJ := Aside0.mk (And.intro hij hnc)
        go_wp2_with (first
          | ((with_reducible refine gate_dst (N := 38) rfl ?_); refine Kd.event_run rfl (ex_lo2 (g := gs) (m := i) rfl (by show Value.slice (some ad) j c = _; rw [HAD.out]) rfl HIJ.out.1 HIJ.out.2) ?_)
          | (refine gate_ (.call { callee := .builtin .clear, args := #[.tmp 38], argTypes := #[23] }) rfl ?_; refine wl_clear (w0 := w0) w0.heap.size rfl rfl (.tmp 38) rfl (g := gs) (m := i) (n := j) (cap := c) (c' := c - i) (xs := xs) rfl HIJ.out.1 HXR.out HXB.out HXB.out.size ?_; intro w6 ho hb; have HO6 := Aside0.mk ho; have HB6 := Aside0.mk hb; clear ho hb))
        go_ret
        obtain ⟨A', c', he, _, hpg⟩ := pgL_of_R HO6.out
        injection he with e1 e2 e3
        have hll : F.length = i := by rw [HF.out, ← HTL.out, List.length_take, HXL.out]; omega
        refine ⟨i, c, some ad, rfl, ⟨hll, fun q hq => ?_⟩, HB6.out⟩
        obtain ⟨ad', A1, c1, h1, h2, h3⟩ := hpg.at_ q (by rw [← e2]; omega)
        have hx : (xs.take i ++ List.replicate (j - i) z58).getD q z58 = F.getD q z58 := by
          rw [List.getD_eq_getElem?_getD, List.getElem?_append_left (by rw [List.length_take, HXL.out]; omega), HTL.out, ← HF.out, ← List.getD_eq_getElem?_getD]
        rw [hx] at h2 h3
        exact ⟨ad', A1, c1, by rw [HAD.out, e1]; exact h1, h2, h3⟩
end Go.Proofs.Ytmghgghheebnjaa.Dis
