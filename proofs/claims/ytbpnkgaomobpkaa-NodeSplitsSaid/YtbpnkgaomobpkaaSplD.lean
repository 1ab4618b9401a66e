/- The document's Split, walked by hand (written by mkspld.py). -/
import Derived.Test.YtbpnkgaomobpkaaSplB
namespace Go.Proofs.Ytbpnkgaomobpkaa.Mrg
open Go.RowKit Go.Proofs.Ytbpnkgaomobpkaa.PNxu Go.Proofs.YtbpnkgaomobpkaaW.PrintWords Go.Proofs.YtbpnkgaomobpkaaW.PrintLast Go.Proofs.YtbpnkgaomobpkaaW.PrintMore Go.Proofs.Ytbpnkgaomobpkaa.Pure
set_option linter.unusedVariables false
set_option linter.unusedSimpArgs false
set_option maxHeartbeats 8000000 in
set_option maxRecDepth 100000 in
theorem ref_split (W : World) (p1 : At) (b : Bool) (K V : List ByteArray) (D : List Int) (h1 : Bk W p1 b K V D) (l1 : K.length ≤ 300 ∧ V.length ≤ 300 ∧ D.length ≤ 300) (m : Bool) (hm : m = true ↔ SplitP b K V D) :
    Calls Try.prog 19 #[.agg #[.bool b, .slice p1.a1 K.length p1.c1, .slice p1.a2 V.length p1.c2, .slice p1.a3 D.length p1.c3]] W fun e w' => ∃ v, e = .returned v ∧ SplR W.heap.size w' v m b K V D ∧ Below W.heap.size W w' := by
  obtain ⟨r1, hr1⟩ := is_bool (CanP b K V D)
  have HC1 := Aside0.mk (fun (w : World) (hB : Below W.heap.size W w) => rcan_c (h1.below hB) ⟨by omega, by omega, by omega⟩ r1 hr1)
  have HM := Aside0.mk hm
  have HR := Aside0.mk hr1
  have HL := Aside0.mk l1
  have HK1 := Aside0.mk h1
  clear hm hr1 l1 h1
  obtain ⟨a1, c1, a2, c2, a3, c3⟩ := p1
  dsimp only at HC1 ⊢
  obtain ⟨n1, hn1⟩ : ∃ n, n = K.length := ⟨_, rfl⟩
  obtain ⟨n2, hn2⟩ : ∃ n, n = V.length := ⟨_, rfl⟩
  obtain ⟨n3, hn3⟩ : ∃ n, n = D.length := ⟨_, rfl⟩
  rw [← hn1, ← hn2, ← hn3] at HC1
  rw [← hn1, ← hn2, ← hn3]
  have HN := Aside0.mk (And.intro hn1 (And.intro hn2 hn3))
  clear hn1 hn2 hn3
  go_enter Try.func19, Try.ntmps19
  go_upto_region 1 with fail
  obtain ⟨w0, hw0⟩ : ∃ w0, w0 = ((W.alloc (.cells #[.bool b, .slice a1 n1 c1, .slice a2 n2 c2, .slice a3 n3 c3] 25)).alloc (.cells #[.bool false, .slice none 0 0, .slice none 0 0, .slice none 0 0] 25)).alloc (.cells #[.bool false, .slice none 0 0, .slice none 0 0, .slice none 0 0] 25) := ⟨_, rfl⟩
  have hbx := boxes3 W (.cells #[.bool b, .slice a1 n1 c1, .slice a2 n2 c2, .slice a3 n3 c3] 25) (.cells #[.bool false, .slice none 0 0, .slice none 0 0, .slice none 0 0] 25) (.cells #[.bool false, .slice none 0 0, .slice none 0 0, .slice none 0 0] 25)
  rw [← hw0] at hbx ⊢
  clear hw0
  obtain ⟨g1, hg1⟩ : ∃ g, g = W.heap.size := ⟨_, rfl⟩
  rw [← hg1] at hbx ⊢
  obtain ⟨g2, hg2⟩ : ∃ g, g = g1 + 1 := ⟨_, rfl⟩
  rw [← hg2] at hbx ⊢
  obtain ⟨g4, hg4⟩ : ∃ g, g = g2 + 1 := ⟨_, rfl⟩
  rw [← hg4] at hbx ⊢
  obtain ⟨q1, q2, q4, hB0, hsz⟩ := hbx
  rw [hg1] at hB0
  obtain ⟨x0, x1, x2, x3⟩ := cells_of q1
  have HQ1 := Aside0.mk q1
  have HQ2 := Aside0.mk q2
  have HQ4 := Aside0.mk q4
  have HB0 := Aside0.mk hB0
  have HG2 := Aside0.mk (show W.heap.size ≤ g2 by omega)
  have HG4 := Aside0.mk (show W.heap.size ≤ g4 by omega)
  have hne : ¬ g4 = g2 := by omega
  have hne' : ¬ g2 = g4 := by omega
  have HNE := Aside0.mk hne
  have HN1 := Aside0.mk (show g1 ≠ g2 ∧ g1 ≠ g4 by omega)
  clear q1 q2 q4 hB0 hsz hg1 hg2 hg4
  cases b with
  | false =>
    cases r1 with
    | false =>
      go_wp2_with (go_at_call 9; refine (HC1.out w0 HB0.out).mono ?_; rintro e w1 ⟨rfl, h1⟩; have HB1 := Aside0.mk (HB0.out.trans (h1.mono HB0.out.size)); have hq1 := blk_below HQ1.out h1; have hq2 := blk_below HQ2.out h1; have hq4 := blk_below HQ4.out h1; obtain ⟨z0, z1, z2, z3⟩ := cells_of hq1; obtain ⟨y0, y1, y2, y3⟩ := cells_of hq2; have f0 := frz_of hq2 0; have f1 := frz_of hq2 1; have f2 := frz_of hq2 2; have f3 := frz_of hq2 3; obtain ⟨v0, v1, v2, v3⟩ := cells_of hq4; have u0 := frz_of hq4 0; have u1 := frz_of hq4 1; have u2 := frz_of hq4 2; have u3 := frz_of hq4 3; have HQ1a := Aside0.mk hq1; have HQ2a := Aside0.mk hq2; have HQ4a := Aside0.mk hq4; clear h1 hq1 hq2 hq4)
      have hm : m = false := by
        cases m with
        | false => rfl
        | true => exact absurd (HR.out.2 (HM.out.1 rfl).1) (by decide)
      have hA := set4_ne (set4_blk HQ2a.out (.bool false) (.slice none 0 0) (.slice none 0 0) (.slice none 0 0)) hne' (.bool false) (.slice none 0 0) (.slice none 0 0) (.slice none 0 0)
      have hA4 := set4_blk (set4_ne HQ4a.out hne (.bool false) (.slice none 0 0) (.slice none 0 0) (.slice none 0 0)) (.bool false) (.slice none 0 0) (.slice none 0 0) (.slice none 0 0)
      refine bodyPost_ret (results_list (rs := [.cell 2 25, .tmp 3, .cell 4 25, .tmp 5]) rfl (by simp) (.cell g2 25 #[.bool false, .slice none 0 0, .slice none 0 0, .slice none 0 0] (0, 0) _ rfl hA Try.underlying25 rfl (by kernel_rfl) (.tmp (.cell g4 25 #[.bool false, .slice none 0 0, .slice none 0 0, .slice none 0 0] (0, 0) _ rfl hA4 Try.underlying25 rfl (by kernel_rfl) (.tmp .nil))))) rfl ?_
      exact ⟨_, rfl, .inl ⟨hm, rfl⟩, set4_below (set4_below HB1.out HG2.out _ _ _ _) HG4.out _ _ _ _⟩
    | true =>
      have HSM := Aside0.mk (small_can (HR.out.1 rfl) (by have := HL.out; omega) (by have := HL.out; omega))
      obtain ⟨N, hN⟩ : ∃ N, N = needTo false K V K.length := ⟨_, rfl⟩
      have hnd := fun (w : World) (hB : Below W.heap.size W w) => rneed_c (HK1.out.below hB) HSM.out.1 HSM.out.2.1 K.length (Nat.le_refl _)
      rw [← hN, ← HN.out.1, ← HN.out.2.1, ← HN.out.2.2] at hnd
      dsimp only at hnd
      have HND := Aside0.mk hnd
      have HNN := Aside0.mk hN
      clear hnd hN
      by_cases hlim : N ≤ 509
      · have e1 : decide (N ≤ 509) = true := decide_eq_true hlim
        go_wp2_with (first
          | (go_at_call 20; refine (HND.out w1 HB1.out).mono ?_; rintro e w2 ⟨rfl, h1⟩; have HB2 := Aside0.mk (HB1.out.trans (h1.mono HB1.out.size)); have hq1 := blk_below HQ1a.out h1; have hq2 := blk_below HQ2a.out h1; have hq4 := blk_below HQ4a.out h1; obtain ⟨t0, t1, t2, t3⟩ := cells_of hq1; obtain ⟨y0, y1, y2, y3⟩ := cells_of hq2; have f0 := frz_of hq2 0; have f1 := frz_of hq2 1; have f2 := frz_of hq2 2; have f3 := frz_of hq2 3; obtain ⟨v0, v1, v2, v3⟩ := cells_of hq4; have u0 := frz_of hq4 0; have u1 := frz_of hq4 1; have u2 := frz_of hq4 2; have u3 := frz_of hq4 3; have HQ1b := Aside0.mk hq1; have HQ2b := Aside0.mk hq2; have HQ4b := Aside0.mk hq4; clear h1 hq1 hq2 hq4)
          | (go_at_call 9; refine (HC1.out w0 HB0.out).mono ?_; rintro e w1 ⟨rfl, h1⟩; have HB1 := Aside0.mk (HB0.out.trans (h1.mono HB0.out.size)); have hq1 := blk_below HQ1.out h1; have hq2 := blk_below HQ2.out h1; have hq4 := blk_below HQ4.out h1; obtain ⟨z0, z1, z2, z3⟩ := cells_of hq1;  have HQ1a := Aside0.mk hq1; have HQ2a := Aside0.mk hq2; have HQ4a := Aside0.mk hq4; clear h1 hq1 hq2 hq4))
        have hm : m = false := by
          cases m with
          | false => rfl
          | true => exact absurd (by have h := (HM.out.1 rfl).2.1; rw [← HNN.out] at h; omega : false = true) (by decide)
        have hA := set4_ne (set4_blk HQ2b.out (.bool false) (.slice none 0 0) (.slice none 0 0) (.slice none 0 0)) hne' (.bool false) (.slice none 0 0) (.slice none 0 0) (.slice none 0 0)
        have hA4 := set4_blk (set4_ne HQ4b.out hne (.bool false) (.slice none 0 0) (.slice none 0 0) (.slice none 0 0)) (.bool false) (.slice none 0 0) (.slice none 0 0) (.slice none 0 0)
        refine bodyPost_ret (results_list (rs := [.cell 2 25, .tmp 3, .cell 4 25, .tmp 5]) rfl (by simp) (.cell g2 25 #[.bool false, .slice none 0 0, .slice none 0 0, .slice none 0 0] (0, 0) _ rfl hA Try.underlying25 rfl (by kernel_rfl) (.tmp (.cell g4 25 #[.bool false, .slice none 0 0, .slice none 0 0, .slice none 0 0] (0, 0) _ rfl hA4 Try.underlying25 rfl (by kernel_rfl) (.tmp .nil))))) rfl ?_
        exact ⟨_, rfl, .inl ⟨hm, rfl⟩, set4_below (set4_below HB2.out HG2.out _ _ _ _) HG4.out _ _ _ _⟩
      · have e1 : decide (N ≤ 509) = false := decide_eq_false hlim
        by_cases hk : n1 ≤ 2
        · have e2 : decide ((n1 : Int) ≤ 2) = true := decide_eq_true (by omega)
          go_wp2_with (first
            | (go_at_call 20; refine (HND.out w1 HB1.out).mono ?_; rintro e w2 ⟨rfl, h1⟩; have HB2 := Aside0.mk (HB1.out.trans (h1.mono HB1.out.size)); have hq1 := blk_below HQ1a.out h1; have hq2 := blk_below HQ2a.out h1; have hq4 := blk_below HQ4a.out h1; obtain ⟨t0, t1, t2, t3⟩ := cells_of hq1; obtain ⟨y0, y1, y2, y3⟩ := cells_of hq2; have f0 := frz_of hq2 0; have f1 := frz_of hq2 1; have f2 := frz_of hq2 2; have f3 := frz_of hq2 3; obtain ⟨v0, v1, v2, v3⟩ := cells_of hq4; have u0 := frz_of hq4 0; have u1 := frz_of hq4 1; have u2 := frz_of hq4 2; have u3 := frz_of hq4 3; have HQ1b := Aside0.mk hq1; have HQ2b := Aside0.mk hq2; have HQ4b := Aside0.mk hq4; clear h1 hq1 hq2 hq4)
            | (go_at_call 9; refine (HC1.out w0 HB0.out).mono ?_; rintro e w1 ⟨rfl, h1⟩; have HB1 := Aside0.mk (HB0.out.trans (h1.mono HB0.out.size)); have hq1 := blk_below HQ1.out h1; have hq2 := blk_below HQ2.out h1; have hq4 := blk_below HQ4.out h1; obtain ⟨z0, z1, z2, z3⟩ := cells_of hq1;  have HQ1a := Aside0.mk hq1; have HQ2a := Aside0.mk hq2; have HQ4a := Aside0.mk hq4; clear h1 hq1 hq2 hq4))
          have hm : m = false := by
            cases m with
            | false => rfl
            | true => exact absurd (by have h := (HM.out.1 rfl).2.2; rw [← HN.out.1] at h; unfold keepN at h; simp at h; omega : false = true) (by decide)
          have hA := set4_ne (set4_blk HQ2b.out (.bool false) (.slice none 0 0) (.slice none 0 0) (.slice none 0 0)) hne' (.bool false) (.slice none 0 0) (.slice none 0 0) (.slice none 0 0)
          have hA4 := set4_blk (set4_ne HQ4b.out hne (.bool false) (.slice none 0 0) (.slice none 0 0) (.slice none 0 0)) (.bool false) (.slice none 0 0) (.slice none 0 0) (.slice none 0 0)
          refine bodyPost_ret (results_list (rs := [.cell 2 25, .tmp 3, .cell 4 25, .tmp 5]) rfl (by simp) (.cell g2 25 #[.bool false, .slice none 0 0, .slice none 0 0, .slice none 0 0] (0, 0) _ rfl hA Try.underlying25 rfl (by kernel_rfl) (.tmp (.cell g4 25 #[.bool false, .slice none 0 0, .slice none 0 0, .slice none 0 0] (0, 0) _ rfl hA4 Try.underlying25 rfl (by kernel_rfl) (.tmp .nil))))) rfl ?_
          exact ⟨_, rfl, .inl ⟨hm, rfl⟩, set4_below (set4_below HB2.out HG2.out _ _ _ _) HG4.out _ _ _ _⟩
        · have e2 : decide ((n1 : Int) ≤ 2) = false := decide_eq_false (by omega)
          obtain ⟨m0, hm0⟩ : ∃ m0 : Nat, m0 = n1 - 2 := ⟨_, rfl⟩
          have em0 : wrap64 ((n1 : Int) - 2) = (m0 : Int) := (wrap_in (by have := HL.out; have := HN.out; omega) (by have := HL.out; have := HN.out; omega)).trans (by omega)
          have hm1 : m0 ≤ n1 ∧ n1 ≤ 300 := by have := HL.out; have := HN.out; omega
          have HND2 := Aside0.mk (show ∀ (w : World) (hB : Below W.heap.size W w) (k : Nat) (hk : k ≤ n1), Calls Try.prog 20 #[.agg #[.bool false, .slice a1 n1 c1, .slice a2 n2 c2, .slice a3 n3 c3], .int .i64 k] w (fun e w' => e = .returned (.int .i64 (needTo false K V k)) ∧ Below w.heap.size w w') from fun w hB k hk => by
            have h := rneed_c (HK1.out.below hB) HSM.out.1 HSM.out.2.1 k (by rw [← HN.out.1]; exact hk)
            rw [← HN.out.1, ← HN.out.2.1, ← HN.out.2.2] at h
            exact h)
          go_upto_block 0 with (first
            | (go_at_call 20; refine (HND.out w1 HB1.out).mono ?_; rintro e w2 ⟨rfl, h1⟩; have HB2 := Aside0.mk (HB1.out.trans (h1.mono HB1.out.size)); have hq1 := blk_below HQ1a.out h1; have hq2 := blk_below HQ2a.out h1; have hq4 := blk_below HQ4a.out h1; obtain ⟨t0, t1, t2, t3⟩ := cells_of hq1; obtain ⟨y0, y1, y2, y3⟩ := cells_of hq2; have f0 := frz_of hq2 0; have f1 := frz_of hq2 1; have f2 := frz_of hq2 2; have f3 := frz_of hq2 3; obtain ⟨v0, v1, v2, v3⟩ := cells_of hq4; have u0 := frz_of hq4 0; have u1 := frz_of hq4 1; have u2 := frz_of hq4 2; have u3 := frz_of hq4 3; have HQ1b := Aside0.mk hq1; have HQ2b := Aside0.mk hq2; have HQ4b := Aside0.mk hq4; clear h1 hq1 hq2 hq4)
            | (go_at_call 9; refine (HC1.out w0 HB0.out).mono ?_; rintro e w1 ⟨rfl, h1⟩; have HB1 := Aside0.mk (HB0.out.trans (h1.mono HB0.out.size)); have hq1 := blk_below HQ1.out h1; have hq2 := blk_below HQ2.out h1; have hq4 := blk_below HQ4.out h1; obtain ⟨z0, z1, z2, z3⟩ := cells_of hq1;  have HQ1a := Aside0.mk hq1; have HQ2a := Aside0.mk hq2; have HQ4a := Aside0.mk hq4; clear h1 hq1 hq2 hq4))
          have em1 : (n1 : Int) - 2 = (m0 : Int) := by omega
          first | rw [em0] | rw [em1]
          clear em1
          have HM0 := Aside0.mk (And.intro hm0 em0)
          have hmi : m0 ≤ 300 := by omega
          clear em0 hm0
          go_wp2_with fail
          go_loopw [8] (fun x wr => ∃ (c : Nat), c ≤ m0 ∧ x = .int .i64 c ∧ (c = m0 ∨ 509 < needTo false K V (c + 1)) ∧ Aside0 (Below w2.heap.size w2 wr)) (fun x _ => (intOf x).toNat)
          case atStart => exact ⟨m0, Nat.le_refl _, rfl, .inl rfl, ⟨Below.refl _ _⟩⟩
          case round =>
            obtain ⟨c, hcm, rfl, hcu, HBk⟩ := hrel
            have hq1 := blk_below HQ1b.out HBk.out
            obtain ⟨s0, s1, s2, s3⟩ := cells_of hq1
            have HBr := Aside0.mk (HB2.out.trans (HBk.out.mono HB2.out.size))
            have hnd := HND2.out wr HBr.out c (by omega)
            obtain ⟨M, hM⟩ : ∃ M, M = needTo false K V c := ⟨_, rfl⟩
            rw [← hM] at hnd
            have HD := Aside0.mk hnd
            have HMM := Aside0.mk hM
            have HCU0 := Aside0.mk hcu
            clear hnd hq1 hcu
            by_cases hov : 509 < M
            · have e3 : decide (509 < M) = true := decide_eq_true hov
              have hc1 : 1 ≤ c := by
                rcases Nat.eq_zero_or_pos c with h | h
                · subst h
                  rw [hM] at hov
                  unfold needTo at hov
                  simp at hov
                · exact h
              clear hM
              go_wp2_with (go_at_call 20; refine HD.out.mono ?_; rintro e w3 ⟨rfl, h1⟩; have HB3 := Aside0.mk (HBk.out.trans (h1.mono HBk.out.size)); clear h1)
              go_roundw
              case rel => exact ⟨c - 1, by omega, by go_num, .inr (by rw [Nat.sub_add_cancel hc1, ← HMM.out]; exact hov), HB3⟩
              case measure => simp [intOf]; omega
            · have e3 : decide (509 < M) = false := decide_eq_false hov
              have HCU := Aside0.mk (show IsCut false K V m0 c from ⟨hcm, by rw [← hM]; omega, HCU0.out⟩)
              clear hM
              go_upto_region 9 with (go_at_call 20; refine HD.out.mono ?_; rintro e w3 ⟨rfl, h1⟩; have HBq := Aside0.mk (HBk.out.trans (h1.mono HBk.out.size)); have HB3 := Aside0.mk (HBr.out.trans (h1.mono HBr.out.size)); clear h1)
              have HQ1c := Aside0.mk (blk_below HQ1b.out HBq.out)
              have HQ2c := Aside0.mk (blk_below HQ2b.out HBq.out)
              have HQ4c := Aside0.mk (blk_below HQ4b.out HBq.out)
              have hcn : c < n1 := by have := HM0.out.1; omega
              have hcb : c ≤ 300 := by omega
              clear hcm s0 s1 s2 s3
              have HCA := Aside0.mk (show ∀ w, Below W.heap.size W w → Kd.C Kd.string w a1 n1 K ∧ Kd.C Kd.string w a2 n2 V ∧ Kd.C (Kd.int .i64) w a3 n3 D from fun w hw => by
                have h := HK1.out.below hw
                have hn := HN.out
                rw [hn.1, hn.2.1, hn.2.2]
                exact ⟨h.k, h.v, h.d⟩)
              have HCC := Aside0.mk (show n1 ≤ c1 ∧ n2 ≤ c2 ∧ n3 ≤ c3 by
                have hn := HN.out
                have h := HK1.out
                exact ⟨by rw [hn.1]; exact h.kc, by rw [hn.2.1]; exact h.vc, by rw [hn.2.2]; exact h.dc⟩)
              have HTL := Aside0.mk ((tail_lens (HR.out.1 (by first | rfl | trivial))).2 rfl)
              obtain ⟨ad, hA, cel⟩ := Kd.at_string (HCA.out w3 HB3.out).1 (c : Int) (by omega) (by omega)
              subst hA
              clear cel
              obtain ⟨kc, hkc⟩ : ∃ kc, kc = K.getD c ByteArray.empty := ⟨_, rfl⟩
              have HST := Aside0.mk (show ∀ w', Below W.heap.size W w' → w'.cell? (ad.add c) = some (.string kc) from fun w' hw => by
                obtain ⟨ad', hA', cel'⟩ := Kd.at_string (HCA.out w' hw).1 (c : Int) (by omega) (by omega)
                injection hA' with hA'
                subst hA'
                rw [hkc]
                exact cel')
              have HKC := Aside0.mk hkc
              clear hkc
              have info9 : (Try.prog.info? 9).map (fun i => (i.zero, i.size, i.bytes)) = some (some (.string ⟨#[]⟩), 1, 16) := by kernel_rfl
              have info3 : (Try.prog.info? 3).map (fun i => (i.zero, i.size, i.bytes)) = some (some (.int .i64 0), 1, 8) := by kernel_rfl
              have INF9 := Aside0.mk info9
              have INF3 := Aside0.mk info3
              clear info9 info3
              obtain ⟨Kx, hKx⟩ : ∃ l, l = K.take c := ⟨_, rfl⟩
              have HKx := Aside0.mk hKx
              clear hKx
              obtain ⟨Ky, hKy⟩ : ∃ l, l = K.drop (c + 1) := ⟨_, rfl⟩
              have HKy := Aside0.mk hKy
              clear hKy
              obtain ⟨Vx, hVx⟩ : ∃ l, l = D.take (c + 1) := ⟨_, rfl⟩
              have HVx := Aside0.mk hVx
              clear hVx
              obtain ⟨Vy, hVy⟩ : ∃ l, l = D.drop (c + 1) := ⟨_, rfl⟩
              have HVy := Aside0.mk hVy
              clear hVy
              obtain ⟨AP, hAP⟩ : ∃ AP : Option Addr, AP = if c1 = (c + 1) then some ad else (some ad).map (·.add ((c + 1) * 1)) := ⟨_, rfl⟩
              obtain ⟨AQ, hAQ⟩ : ∃ AQ : Option Addr, AQ = if c3 = (c + 1) then a3 else a3.map (·.add ((c + 1) * 1)) := ⟨_, rfl⟩
              have HAP := Aside0.mk hAP
              have HAQ := Aside0.mk hAQ
              clear hAP hAQ
              have hdr : Below w3.heap.size w3 w3.drew := below_drew (Below.refl _ _)
              refine start_ (n := 16) (S := fun w' => Below w3.heap.size w3 w') (ds := []) #[false, false, false, false, false, false, false, false, false, false, false, false, false, false, false, false] (by kernel_rfl) rfl rfl hdr (fun hHeld => ?_)
              refine pure_ (i := 0) (N := some 41) (v := ?_) (a' := ?_) #[true, false, false, false, false, false, false, false, false, false, false, false, false, false, false, false] rfl rfl (by kernel_rfl) (fun _ _ _ h => h) (Or.inl ⟨by rfl, ?_⟩) ?_ ?_
              rotate_left
              · intro w'
                go_simp
                with_reducible rfl
              rotate_left
              · simp only [Act.put, List.setIfInBounds_toArray, List.set_cons_zero, List.set_cons_succ]
                rfl
              refine pure_ (i := 3) (N := some 44) (v := ?_) (a' := ?_) #[true, false, false, true, false, false, false, false, false, false, false, false, false, false, false, false] rfl rfl (by kernel_rfl) (fun _ _ _ h => h) (Or.inl ⟨by rfl, ?_⟩) ?_ ?_
              rotate_left
              · intro w'
                go_simp
                with_reducible rfl
              rotate_left
              · simp only [Act.put, List.setIfInBounds_toArray, List.set_cons_zero, List.set_cons_succ]
                rfl
              refine pure_ (i := 5) (N := some 46) (v := ?_) (a' := ?_) #[true, false, false, true, false, true, false, false, false, false, false, false, false, false, false, false] rfl rfl (by kernel_rfl) (fun _ _ _ h => h) (Or.inl ⟨by rfl, ?_⟩) ?_ ?_
              rotate_left
              · intro w'
                go_simp
                with_reducible rfl
              rotate_left
              · simp only [Act.put, List.setIfInBounds_toArray, List.set_cons_zero, List.set_cons_succ]
                rfl
              refine pure_ (i := 9) (N := some 50) (v := ?_) (a' := ?_) #[true, false, false, true, false, true, false, false, false, true, false, false, false, false, false, false] rfl rfl (by kernel_rfl) (fun _ _ _ h => h) (Or.inl ⟨by rfl, ?_⟩) ?_ ?_
              rotate_left
              · intro w'
                go_simp
                with_reducible rfl
              rotate_left
              · simp only [Act.put, List.setIfInBounds_toArray, List.set_cons_zero, List.set_cons_succ]
                rfl
              refine take_ (i := 1) (N := some 42) (v := ?_) (a' := ?_) #[true, true, false, true, false, true, false, false, false, true, false, false, false, false, false, false] rfl rfl (by kernel_rfl) (fun _ _ _ h => h) (Or.inl ⟨by rfl, ?_⟩) hHeld ?_ ?_
              rotate_left
              · intro w' s0
                have s1 := (cells_of (blk_below HQ1c.out s0)).1
                go_simp
                with_reducible rfl
              rotate_left
              · simp only [Act.put, List.setIfInBounds_toArray, List.set_cons_zero, List.set_cons_succ]
                rfl
              refine take_ (i := 4) (N := some 45) (v := ?_) (a' := ?_) #[true, true, false, true, true, true, false, false, false, true, false, false, false, false, false, false] rfl rfl (by kernel_rfl) (fun _ _ _ h => h) (Or.inl ⟨by rfl, ?_⟩) hHeld ?_ ?_
              rotate_left
              · intro w' s0
                have s1 := (cells_of (blk_below HQ1c.out s0)).2.1
                go_simp
                with_reducible rfl
              rotate_left
              · simp only [Act.put, List.setIfInBounds_toArray, List.set_cons_zero, List.set_cons_succ]
                rfl
              refine take_ (i := 10) (N := some 51) (v := ?_) (a' := ?_) #[true, true, false, true, true, true, false, false, false, true, true, false, false, false, false, false] rfl rfl (by kernel_rfl) (fun _ _ _ h => h) (Or.inl ⟨by rfl, ?_⟩) hHeld ?_ ?_
              rotate_left
              · intro w' s0
                have s1 := (cells_of (blk_below HQ1c.out s0)).1
                go_simp
                with_reducible rfl
              rotate_left
              · simp only [Act.put, List.setIfInBounds_toArray, List.set_cons_zero, List.set_cons_succ]
                rfl
              refine pure_ (i := 6) (N := some 47) (v := .slice (some ad) c c1) (a' := ?_) #[true, true, false, true, true, true, true, false, false, true, true, false, false, false, false, false] rfl rfl (by kernel_rfl) (fun _ _ _ h => h) (Or.inl ⟨by rfl, ?_⟩) ?_ ?_
              · intro w'
                exact ex_hi (x := .tmp 45) (y := .tmp 46) und22 size9 rfl rfl rfl (by have := HCC.out; omega)
              rotate_left
              · simp only [Act.put, List.setIfInBounds_toArray, List.set_cons_zero, List.set_cons_succ]
                rfl
              refine pure_ (i := 11) (N := some 52) (v := .agg #[.bool false, .slice none 0 0, .slice none 0 0, .slice none 0 0]) (a' := ?_) #[true, true, false, true, true, true, true, false, false, true, true, true, false, false, false, false] rfl rfl (by kernel_rfl) (fun _ _ _ h => h) (Or.inl ⟨by rfl, ?_⟩) ?_ ?_
              · intro w'
                go_simp
              rotate_left
              · simp only [Act.put, List.setIfInBounds_toArray, List.set_cons_zero, List.set_cons_succ]
                rfl
              refine lattice3 (l0 := #[true, true, false, true, true, true, true, false, false, true, true, true, false, false, false, false]) [2, 7, 8, 12, 13] [[false, false, false, false, false], [true, false, false, false, false], [true, true, false, false, false], [true, true, true, false, false], [false, false, false, true, false], [true, false, false, true, false], [true, true, false, true, false], [true, true, true, true, false], [false, false, false, false, true], [true, false, false, false, true], [true, true, false, false, true], [true, true, true, false, true], [false, false, false, true, true], [true, false, false, true, true], [true, true, false, true, true], [true, true, true, true, true]] [43, 48, 49, 9, 10] (by kernel_rfl) (by kernel_rfl) (by decide) (by kernel_rfl) (by kernel_rfl) (by kernel_rfl) (fun d xs w' => ∃ x0 x1 x2 x3 x4, xs = [x0, x1, x2, x3, x4] ∧ (d.getD 0 false = true → d.getD 1 true = false → RowS Kd.string 9 w3.heap.size w' x0 ([] : List ByteArray)) ∧ (d.getD 1 false = true → RowS Kd.string 9 w3.heap.size w' x1 Kx) ∧ (d.getD 2 false = true → x2 = .agg #[.bool false, x1, .slice none 0 0, .slice none 0 0]) ∧ (d.getD 3 false = true → BoxAt w3.heap.size w' x3 #[.bool false, .slice none 0 0, .slice none 0 0, .slice none 0 0]) ∧ (d.getD 4 false = true → BoxAt w3.heap.size w' x4 #[.bool false, .slice none 0 0, .slice none 0 0, .slice none 0 0]) ∧ (d.getD 3 false = true → d.getD 4 false = true → PNe x3 x4)) 2 rfl (by kernel_rfl) hHeld ?hF ?hstep ?hfin
              case hF =>
                intro xs hx
                match xs, hx with
                | [x0, x1, x2, x3, x4], _ => exact ⟨x0, x1, x2, x3, x4, rfl, fun h _ => absurd h (by decide), fun h => absurd h (by decide), fun h => absurd h (by decide), fun h => absurd h (by decide), fun h => absurd h (by decide), fun h _ => absurd h (by decide)⟩
              case hstep =>
                intro j hj
                have hj : j < 5 := hj
                rcases (by omega : j = 0 ∨ j = 1 ∨ j = 2 ∨ j = 3 ∨ j = 4) with rfl | rfl | rfl | rfl | rfl
                · intro d hd hjn hn xs wl hx hSl ⟨x0, x1, x2, x3, x4, hxs, frA, frB, fbd, fp, fq, fne⟩ a' ha o ho K hK
                  subst hxs
                  obtain rfl := Option.some.inj (ho.symm.trans (rfl : _ = some _))
                  simp only [putVs, Act.put, List.setIfInBounds_toArray, List.set_cons_zero, List.set_cons_succ] at ha
                  subst ha
                  refine Kd.R_lit_step Kd.string w3.heap.size 9 ?hg (N := 43) ?hd (xs := ([] : List ByteArray)) (inner := []) (ok := tt) (okp := tt) ?hr ?hp (fun _ hk => hk) trivial hSl hSl.size (by simp) ?_; (case hd => rfl); (case hg => rfl); (case hr => first | (go_simp; done) | (go_simp; rfl)); (case hp => exact (Reps.none _ _))
                  intro v6 w6 ho hS6 hG hnew
                  have hnewrow := rowS_s ho
                  exact hK.out _ _ hS6 ⟨_, _, _, _, _, rfl, fun h0 n1 => hnewrow, fun h1 => absurd ((on_ne d 0 1 (by decide)).symm.trans h1) (fun h2 => bit_abs (before_of (j := 0) (k := 1) (by kernel_rfl) hd hjn hn) h2), fun h2 => absurd ((on_ne d 0 2 (by decide)).symm.trans h2) (fun h2 => bit_abs (before_of (j := 0) (k := 2) (by kernel_rfl) hd hjn hn) h2), fun h3 => BoxAt.grown0 (fp ((on_ne d 0 3 (by decide)).symm.trans h3)) hG, fun h4 => BoxAt.grown0 (fq ((on_ne d 0 4 (by decide)).symm.trans h4)) hG, fun h3 h4 => (fne ((on_ne d 0 3 (by decide)).symm.trans h3) ((on_ne d 0 4 (by decide)).symm.trans h4))⟩
                · intro d hd hjn hn xs wl hx hSl ⟨x0, x1, x2, x3, x4, hxs, frA, frB, fbd, fp, fq, fne⟩ a' ha o ho K hK
                  subst hxs
                  obtain rfl := Option.some.inj (ho.symm.trans (rfl : _ = some _))
                  simp only [putVs, Act.put, List.setIfInBounds_toArray, List.set_cons_zero, List.set_cons_succ] at ha
                  subst ha
                  have grA := frA (after_of (j := 1) (k := 0) (by kernel_rfl) hd hjn hn) hjn
                  refine Kd.R_append_rows_step Kd.string (w0 := w3) w3.heap.size (by rfl) (.tmp 43) (.tmp 47) 22 9 (.string ⟨#[]⟩) 16 rfl Try.underlying22 INF9.out rfl (by decide) (by decide) x0 [] Kx (some ad) c c1 tt (fun _ => False) rfl rfl (RowS.tt grA) (by rw [HKx.out]; exact takeC ((HCA.out _ (HB3.out.trans (hSl.mono HB3.out.size))).1) (by have := HCC.out; omega)) (fun _ _ h => h) (fun _ h => h.elim) (fun _ _ => trivial) hSl hSl.size ?hl ?_
                  case hl => simp; omega
                  intro v6 w6 ho hS6 hG hat
                  have hnewrow : RowS Kd.string 9 w3.heap.size w6 v6 Kx := rowS_s ho
                  exact hK.out _ _ hS6 ⟨_, _, _, _, _, rfl, fun h0 n1 => absurd n1 (by rw [on_att]; decide), fun h1 => hnewrow, fun h2 => absurd ((on_ne d 1 2 (by decide)).symm.trans h2) (fun h2 => bit_abs (before_of (j := 1) (k := 2) (by kernel_rfl) hd hjn hn) h2), fun h3 => BoxAt.grown (fp ((on_ne d 1 3 (by decide)).symm.trans h3)) grA (by decide) hG, fun h4 => BoxAt.grown (fq ((on_ne d 1 4 (by decide)).symm.trans h4)) grA (by decide) hG, fun h3 h4 => (fne ((on_ne d 1 3 (by decide)).symm.trans h3) ((on_ne d 1 4 (by decide)).symm.trans h4))⟩
                · intro d hd hjn hn xs wl hx hSl ⟨x0, x1, x2, x3, x4, hxs, frA, frB, fbd, fp, fq, fne⟩ a' ha o ho K hK
                  subst hxs
                  obtain rfl := Option.some.inj (ho.symm.trans (rfl : _ = some _))
                  simp only [putVs, Act.put, List.setIfInBounds_toArray, List.set_cons_zero, List.set_cons_succ] at ha
                  subst ha
                  have grB := frB (after_of (j := 2) (k := 1) (by kernel_rfl) hd hjn hn)
                  obtain ⟨A4, d4, rfl⟩ := Kd.R_slice grB
                  refine value_ rfl rfl (v := .agg #[.bool false, .slice A4 Kx.length d4, .slice none 0 0, .slice none 0 0]) (w1 := wl) (by first | (go_simp; done) | (go_simp; rfl)) ?_
                  exact hK.out _ wl hSl ⟨_, _, _, _, _, rfl, fun h0 n1 => (bit_abs ((on_net d 2 1 (by decide)).symm.trans n1) (after_of (j := 2) (k := 1) (by kernel_rfl) hd hjn hn)).elim, fun h1 => (frB (after_of (j := 2) (k := 1) (by kernel_rfl) hd hjn hn)), fun h2 => rfl, fun h3 => (fp ((on_ne d 2 3 (by decide)).symm.trans h3)), fun h4 => (fq ((on_ne d 2 4 (by decide)).symm.trans h4)), fun h3 h4 => (fne ((on_ne d 2 3 (by decide)).symm.trans h3) ((on_ne d 2 4 (by decide)).symm.trans h4))⟩
                · intro d hd hjn hn xs wl hx hSl ⟨x0, x1, x2, x3, x4, hxs, frA, frB, fbd, fp, fq, fne⟩ a' ha o ho K hK
                  subst hxs
                  obtain rfl := Option.some.inj (ho.symm.trans (rfl : _ = some _))
                  simp only [putVs, Act.put, List.setIfInBounds_toArray, List.set_cons_zero, List.set_cons_succ] at ha
                  subst ha
                  have hb1 : Below wl.heap.size wl (wl.alloc (.cells #[.bool false, .slice none 0 0, .slice none 0 0, .slice none 0 0] 25)) := below_alloc (Below.refl _ _) _
                  have hG : wl.grownBy (wl.alloc (.cells #[.bool false, .slice none 0 0, .slice none 0 0, .slice none 0 0] 25)) none := World.grownBy_alloc _ _ _
                  refine value_ rfl rfl (v := .pointer (some ⟨wl.heap.size, 0, none⟩)) (w1 := wl.alloc (.cells #[.bool false, .slice none 0 0, .slice none 0 0, .slice none 0 0] 25)) (by first | (go_simp; done) | (go_simp; rfl)) ?_
                  exact hK.out _ _ (hSl.trans (hb1.mono hSl.size)) ⟨_, _, _, _, _, rfl, fun h0 n1 => RowS.grown0 (frA ((on_ne d 3 0 (by decide)).symm.trans h0) ((on_net d 3 1 (by decide)).symm.trans n1)) hG, fun h1 => RowS.grown0 (frB ((on_ne d 3 1 (by decide)).symm.trans h1)) hG, fun h2 => (fbd ((on_ne d 3 2 (by decide)).symm.trans h2)), fun h3 => ⟨_, rfl, blk_new wl _, hSl.size⟩, fun h4 => BoxAt.grown0 (fq ((on_ne d 3 4 (by decide)).symm.trans h4)) hG, fun h3 h4 => pne_new (fq ((on_ne d 3 4 (by decide)).symm.trans h4))⟩
                · intro d hd hjn hn xs wl hx hSl ⟨x0, x1, x2, x3, x4, hxs, frA, frB, fbd, fp, fq, fne⟩ a' ha o ho K hK
                  subst hxs
                  obtain rfl := Option.some.inj (ho.symm.trans (rfl : _ = some _))
                  simp only [putVs, Act.put, List.setIfInBounds_toArray, List.set_cons_zero, List.set_cons_succ] at ha
                  subst ha
                  have hb1 : Below wl.heap.size wl (wl.alloc (.cells #[.bool false, .slice none 0 0, .slice none 0 0, .slice none 0 0] 25)) := below_alloc (Below.refl _ _) _
                  have hG : wl.grownBy (wl.alloc (.cells #[.bool false, .slice none 0 0, .slice none 0 0, .slice none 0 0] 25)) none := World.grownBy_alloc _ _ _
                  refine value_ rfl rfl (v := .pointer (some ⟨wl.heap.size, 0, none⟩)) (w1 := wl.alloc (.cells #[.bool false, .slice none 0 0, .slice none 0 0, .slice none 0 0] 25)) (by first | (go_simp; done) | (go_simp; rfl)) ?_
                  exact hK.out _ _ (hSl.trans (hb1.mono hSl.size)) ⟨_, _, _, _, _, rfl, fun h0 n1 => RowS.grown0 (frA ((on_ne d 4 0 (by decide)).symm.trans h0) ((on_net d 4 1 (by decide)).symm.trans n1)) hG, fun h1 => RowS.grown0 (frB ((on_ne d 4 1 (by decide)).symm.trans h1)) hG, fun h2 => (fbd ((on_ne d 4 2 (by decide)).symm.trans h2)), fun h3 => BoxAt.grown0 (fp ((on_ne d 4 3 (by decide)).symm.trans h3)) hG, fun h4 => ⟨_, rfl, blk_new wl _, hSl.size⟩, fun h3 h4 => (pne_new (fp ((on_ne d 4 3 (by decide)).symm.trans h3))).symm⟩
              case hfin =>
                intro xs wl hx hSl ⟨x0, x1, x2, x3, x4, hxs, frA, frB, fbd, fp, fq, fne⟩ a' ha
                subst hxs
                simp only [putVs, Act.put, List.setIfInBounds_toArray, List.set_cons_zero, List.set_cons_succ] at ha
                subst ha
                have grB := frB (by decide)
                have gbd := fbd (by decide)
                have gp := fp (by decide)
                have gq := fq (by decide)
                have gne := fne (by decide) (by decide)
                clear frA frB fbd fp fq fne
                obtain ⟨g9, rfl, hq9, hg9⟩ := gp
                obtain ⟨g10, rfl, hq10, hg10⟩ := gq
                have hn9 := pne_of gne
                obtain ⟨A4, d4, rfl⟩ := Kd.R_slice grB
                subst gbd
                have hHeld := hSl
                obtain ⟨i0, i1, i2, i3⟩ := cells_of hq9
                have j0 := frz_of hq9 0
                have j1 := frz_of hq9 1
                have j2 := frz_of hq9 2
                have j3 := frz_of hq9 3
                have hr10 := set4_ne hq10 (fun e => hn9 e.symm) (.bool false) (.slice A4 Kx.length d4) (.slice none 0 0) (.slice none 0 0)
                obtain ⟨k0, k1, k2, k3⟩ := cells_of hr10
                have l0 := frz_of hr10 0
                have l1 := frz_of hr10 1
                have l2 := frz_of hr10 2
                have l3 := frz_of hr10 3
                refine one_ (i := 14) (N := none) #[true, true, true, true, true, true, true, true, true, true, true, true, true, true, true, false] rfl rfl (by kernel_rfl) (by decide) (fun K hK => ?_)
                refine skip_ rfl rfl (w1 := set4 wl g9 (.bool false) (.slice A4 Kx.length d4) (.slice none 0 0) (.slice none 0 0)) (by first | (go_simp; done) | (go_simp; rfl)) ?_
                refine hK.out _ _ (set4_below hSl hg9 _ _ _ _) (fun hHeld => ?_)
                clear hK K 
                refine one_ (i := 15) (N := none) #[true, true, true, true, true, true, true, true, true, true, true, true, true, true, true, true] rfl rfl (by kernel_rfl) (by decide) (fun K hK => ?_)
                refine skip_ rfl rfl (w1 := set4 (set4 wl g9 (.bool false) (.slice A4 Kx.length d4) (.slice none 0 0) (.slice none 0 0)) g10 (.bool false) (.slice none 0 0) (.slice none 0 0) (.slice none 0 0)) (by first | (go_simp; done) | (go_simp; rfl)) ?_
                refine hK.out _ _ (set4_below (set4_below hSl hg9 _ _ _ _) hg10 _ _ _ _) (fun hHeld => ?_)
                clear hK K 
                refine done_ (by kernel_rfl) ?_
                have e9 := set4_ne (set4_blk hq9 (.bool false) (.slice A4 Kx.length d4) (.slice none 0 0) (.slice none 0 0)) hn9 (.bool false) (.slice none 0 0) (.slice none 0 0) (.slice none 0 0)
                have e10 := set4_blk hr10 (.bool false) (.slice none 0 0) (.slice none 0 0) (.slice none 0 0)
                have e4 := RowS.set4 (RowS.set4 grB hq9 (by decide) (.bool false) (.slice A4 Kx.length d4) (.slice none 0 0) (.slice none 0 0)) hr10 (by decide) (.bool false) (.slice none 0 0) (.slice none 0 0) (.slice none 0 0)
                have e5 := set4_below (set4_below hSl hg9 (.bool false) (.slice A4 Kx.length d4) (.slice none 0 0) (.slice none 0 0)) hg10 (.bool false) (.slice none 0 0) (.slice none 0 0) (.slice none 0 0)
                clear i0 i1 i2 i3 j0 j1 j2 j3 k0 k1 k2 k3 l0 l1 l2 l3 hHeld hq9 hq10 hr10 grB hSl hdr
                generalize set4 (set4 wl g9 (.bool false) (.slice A4 Kx.length d4) (.slice none 0 0) (.slice none 0 0)) g10 (.bool false) (.slice none 0 0) (.slice none 0 0) (.slice none 0 0) = w5 at e9 e10 e4 e5 ⊢
                have HG9 := Aside0.mk hg9
                have HG10 := Aside0.mk hg10
                have HN9 := Aside0.mk hn9
                have X4 := Aside0.mk e4
                have HS5 := Aside0.mk e5
                have HQ9 := Aside0.mk e9
                have HQ10 := Aside0.mk e10
                clear e4 e5 e9 e10 hg9 hg10 hn9
                obtain ⟨s0, s1, s2, s3⟩ := cells_of (blk_below HQ1c.out HS5.out)
                go_upto_region 13 with fail
                clear s0 s1 s2 s3
                have hdr : Below w5.heap.size w5 w5.drew := below_drew (Below.refl _ _)
                have HQ1e := Aside0.mk (blk_below HQ1c.out HS5.out)
                refine start_ (n := 10) (S := fun w' => Below w5.heap.size w5 w') (ds := [9]) #[false, false, false, false, false, false, false, false, false, false] (by kernel_rfl) rfl rfl hdr (fun hHeld => ?_)
                refine pure_ (i := 0) (N := some 79) (v := ?_) (a' := ?_) #[true, false, false, false, false, false, false, false, false, false] rfl rfl (by kernel_rfl) (fun _ _ _ h => h) (Or.inl ⟨by rfl, ?_⟩) ?_ ?_
                rotate_left
                · intro w'
                  go_simp
                  with_reducible rfl
                rotate_left
                · simp only [Act.put, List.setIfInBounds_toArray, List.set_cons_zero, List.set_cons_succ]
                  rfl
                refine pure_ (i := 2) (N := some 81) (v := ?_) (a' := ?_) #[true, false, true, false, false, false, false, false, false, false] rfl rfl (by kernel_rfl) (fun _ _ _ h => h) (Or.inl ⟨by rfl, ?_⟩) ?_ ?_
                rotate_left
                · intro w'
                  go_simp
                  with_reducible rfl
                rotate_left
                · simp only [Act.put, List.setIfInBounds_toArray, List.set_cons_zero, List.set_cons_succ]
                  rfl
                refine pure_ (i := 4) (N := some 83) (v := ?_) (a' := ?_) #[true, false, true, false, true, false, false, false, false, false] rfl rfl (by kernel_rfl) (fun _ _ _ h => h) (Or.inl ⟨by rfl, ?_⟩) ?_ ?_
                rotate_left
                · intro w'
                  go_simp
                  with_reducible rfl
                rotate_left
                · simp only [Act.put, List.setIfInBounds_toArray, List.set_cons_zero, List.set_cons_succ]
                  rfl
                refine take_ (i := 1) (N := some 80) (v := ?_) (a' := ?_) #[true, true, true, false, true, false, false, false, false, false] rfl rfl (by kernel_rfl) (fun _ _ _ h => h) (Or.inl ⟨by rfl, ?_⟩) hHeld ?_ ?_
                rotate_left
                · intro w' s0
                  have s1 := (cells_of (blk_below HQ9.out s0)).2.2.2
                  go_simp
                  with_reducible rfl
                rotate_left
                · simp only [Act.put, List.setIfInBounds_toArray, List.set_cons_zero, List.set_cons_succ]
                  rfl
                refine take_ (i := 3) (N := some 82) (v := ?_) (a' := ?_) #[true, true, true, true, true, false, false, false, false, false] rfl rfl (by kernel_rfl) (fun _ _ _ h => h) (Or.inl ⟨by rfl, ?_⟩) hHeld ?_ ?_
                rotate_left
                · intro w' s0
                  have s1 := (cells_of (blk_below HQ1e.out s0)).2.2.2
                  go_simp
                  with_reducible rfl
                rotate_left
                · simp only [Act.put, List.setIfInBounds_toArray, List.set_cons_zero, List.set_cons_succ]
                  rfl
                refine pure_ (i := 5) (N := some 84) (v := .int .i64 ((c + 1 : Nat) : Int)) (a' := ?_) #[true, true, true, true, true, true, false, false, false, false] rfl rfl (by kernel_rfl) (fun _ _ _ h => h) (Or.inl ⟨by rfl, ?_⟩) ?_ ?_
                · intro w'
                  first | (go_simp; done) | (go_simp; rfl) | (go_simp; go_num) | (go_simp; rw [IntKind.wrap_i64]; omega)
                rotate_left
                · simp only [Act.put, List.setIfInBounds_toArray, List.set_cons_zero, List.set_cons_succ]
                  rfl
                refine pure_ (i := 6) (N := some 85) (v := .slice a3 (c + 1) c3) (a' := ?_) #[true, true, true, true, true, true, true, false, false, false] rfl rfl (by kernel_rfl) (fun _ _ _ h => h) (Or.inl ⟨by rfl, ?_⟩) ?_ ?_
                · intro w'
                  exact ex_hi (x := .tmp 82) (y := .tmp 84) und23 size3 rfl rfl rfl (by have := HCC.out; have := HTL.out; have := HN.out; omega)
                rotate_left
                · simp only [Act.put, List.setIfInBounds_toArray, List.set_cons_zero, List.set_cons_succ]
                  rfl
                refine one_ (i := 7) (N := some 86) #[true, true, true, true, true, true, true, true, false, false] rfl rfl (by kernel_rfl) (by decide) (fun K hK => ?_)
                refine Kd.R_append_rows_step (Kd.int .i64) (w0 := w5) w5.heap.size (by rfl) (.tmp 80) (.tmp 85) 23 3 (.int .i64 0) 8 rfl Try.underlying23 INF3.out rfl (by decide) (by decide) (.slice none 0 0) [] Vx a3 (c + 1) c3 tt (fun _ => False) rfl rfl (Kd.R_nil _ _ _ _ _) (by rw [HVx.out]; exact takeC (((HCA.out _ ((HB3.out.trans (HS5.out.mono HB3.out.size)).trans (hHeld.mono (HB3.out.trans (HS5.out.mono HB3.out.size)).size))).2.2)) (by have := HCC.out; have := HTL.out; have := HN.out; omega)) (fun _ _ h => h) (fun _ h => h.elim) (fun _ _ => trivial) hHeld hHeld.size ?hl ?_
                case hl => have := HCC.out; have := HTL.out; have := HN.out; have := HL.out; simp; omega
                intro v6 w6 ho hb hG hat
                have X5 := Aside0.mk (show RowS (Kd.int .i64) 3 w5.heap.size w6 v6 Vx from rowS_i ho)
                obtain ⟨A5, d5, e5⟩ := Kd.R_slice X5.out
                subst e5
                have hb6 := hb
                have hw6 := w6
                clear ho hG hat
                show K (Act.put _ (some 86) _) _
                simp only [Act.put, List.setIfInBounds_toArray, List.set_cons_zero, List.set_cons_succ]
                refine hK.out _ _ hb6 (fun hHeld => ?_)
                clear hK K hb6 hw6
                have hq := blk_below HQ9.out hHeld
                obtain ⟨i0, i1, i2, i3⟩ := cells_of hq
                have j0 := frz_of hq 0
                have j1 := frz_of hq 1
                have j2 := frz_of hq 2
                have j3 := frz_of hq 3
                refine pure_ (i := 8) (N := some 87) (v := ?_) (a' := ?_) #[true, true, true, true, true, true, true, true, true, false] rfl rfl (by kernel_rfl) (fun _ _ _ h => h) (Or.inl ⟨by rfl, ?_⟩) ?_ ?_
                rotate_left
                · intro w'
                  go_simp
                  with_reducible rfl
                rotate_left
                · simp only [Act.put, List.setIfInBounds_toArray, List.set_cons_zero, List.set_cons_succ]
                  rfl
                have hp3 := blk_put (cs' := #[.bool false, .slice A4 Kx.length d4, .slice none 0 0, .slice A5 Vx.length d5]) hq 3 (.slice A5 Vx.length d5) rfl
                refine last_ (i := 9) (N := none) #[true, true, true, true, true, true, true, true, true, true] rfl rfl (by kernel_rfl) (by decide) (fun K hK => ?_)
                refine skip_ rfl rfl (w1 := (w6).setCell ⟨g9, 3, none⟩ (.slice A5 Vx.length d5)) (by first | (go_simp; done) | (go_simp; rfl)) ?_
                refine hK.out _ _ ?_
                clear hK K
                refine done_ (by kernel_rfl) ?_
                have ho0 := blk_below HQ10.out hHeld
                have hs0 := HS5.out.trans (hHeld.mono HS5.out.size)
                have rX4 := RowS.below X4.out hHeld
                have rX5 := X5.out
                have ho0 := (Below.heap_setCell _ ⟨g9, 3, none⟩ (.slice A5 Vx.length d5) _ (fun e => HN9.out e.symm)).trans ho0
                have hs0 := hs0.setCell (p := ⟨g9, 3, none⟩) HG9.out (.slice A5 Vx.length d5)
                have rX4 := RowS.set1 (j := 3) rX4 hq (by decide) (.slice A5 Vx.length d5)
                have rX5 := RowS.set1 (j := 3) rX5 hq (by decide) (.slice A5 Vx.length d5)
                clear i0 i1 i2 i3 j0 j1 j2 j3
                generalize (w6).setCell ⟨g9, 3, none⟩ (.slice A5 Vx.length d5) = w7 at hp3 ho0 hs0 rX4 rX5 ⊢
                have X4 := Aside0.mk rX4
                have X5 := Aside0.mk rX5
                have HQ9 := Aside0.mk hp3
                have HQ10 := Aside0.mk ho0
                have Hw7 := Aside0.mk hs0
                clear hp3 ho0 hs0 hq hHeld hdr rX4 rX5
                go_upto_region 14 with fail
                have hdr : Below w7.heap.size w7 w7.drew := below_drew (Below.refl _ _)
                have HQ1e := Aside0.mk (blk_below HQ1c.out Hw7.out)
                refine start_ (n := 20) (S := fun w' => Below w7.heap.size w7 w') (ds := [17, 19]) #[false, false, false, false, false, false, false, false, false, false, false, false, false, false, false, false, false, false, false, false] (by kernel_rfl) rfl rfl hdr (fun hHeld => ?_)
                refine pure_ (i := 0) (N := some 88) (v := ?_) (a' := ?_) #[true, false, false, false, false, false, false, false, false, false, false, false, false, false, false, false, false, false, false, false] rfl rfl (by kernel_rfl) (fun _ _ _ h => h) (Or.inl ⟨by rfl, ?_⟩) ?_ ?_
                rotate_left
                · intro w'
                  go_simp
                  with_reducible rfl
                rotate_left
                · simp only [Act.put, List.setIfInBounds_toArray, List.set_cons_zero, List.set_cons_succ]
                  rfl
                refine pure_ (i := 2) (N := some 90) (v := ?_) (a' := ?_) #[true, false, true, false, false, false, false, false, false, false, false, false, false, false, false, false, false, false, false, false] rfl rfl (by kernel_rfl) (fun _ _ _ h => h) (Or.inl ⟨by rfl, ?_⟩) ?_ ?_
                rotate_left
                · intro w'
                  go_simp
                  with_reducible rfl
                rotate_left
                · simp only [Act.put, List.setIfInBounds_toArray, List.set_cons_zero, List.set_cons_succ]
                  rfl
                refine pure_ (i := 4) (N := some 92) (v := ?_) (a' := ?_) #[true, false, true, false, true, false, false, false, false, false, false, false, false, false, false, false, false, false, false, false] rfl rfl (by kernel_rfl) (fun _ _ _ h => h) (Or.inl ⟨by rfl, ?_⟩) ?_ ?_
                rotate_left
                · intro w'
                  go_simp
                  with_reducible rfl
                rotate_left
                · simp only [Act.put, List.setIfInBounds_toArray, List.set_cons_zero, List.set_cons_succ]
                  rfl
                refine pure_ (i := 8) (N := some 96) (v := ?_) (a' := ?_) #[true, false, true, false, true, false, false, false, true, false, false, false, false, false, false, false, false, false, false, false] rfl rfl (by kernel_rfl) (fun _ _ _ h => h) (Or.inl ⟨by rfl, ?_⟩) ?_ ?_
                rotate_left
                · intro w'
                  go_simp
                  with_reducible rfl
                rotate_left
                · simp only [Act.put, List.setIfInBounds_toArray, List.set_cons_zero, List.set_cons_succ]
                  rfl
                refine pure_ (i := 10) (N := some 98) (v := ?_) (a' := ?_) #[true, false, true, false, true, false, false, false, true, false, true, false, false, false, false, false, false, false, false, false] rfl rfl (by kernel_rfl) (fun _ _ _ h => h) (Or.inl ⟨by rfl, ?_⟩) ?_ ?_
                rotate_left
                · intro w'
                  go_simp
                  with_reducible rfl
                rotate_left
                · simp only [Act.put, List.setIfInBounds_toArray, List.set_cons_zero, List.set_cons_succ]
                  rfl
                refine pure_ (i := 12) (N := some 100) (v := ?_) (a' := ?_) #[true, false, true, false, true, false, false, false, true, false, true, false, true, false, false, false, false, false, false, false] rfl rfl (by kernel_rfl) (fun _ _ _ h => h) (Or.inl ⟨by rfl, ?_⟩) ?_ ?_
                rotate_left
                · intro w'
                  go_simp
                  with_reducible rfl
                rotate_left
                · simp only [Act.put, List.setIfInBounds_toArray, List.set_cons_zero, List.set_cons_succ]
                  rfl
                refine take_ (i := 1) (N := some 89) (v := ?_) (a' := ?_) #[true, true, true, false, true, false, false, false, true, false, true, false, true, false, false, false, false, false, false, false] rfl rfl (by kernel_rfl) (fun _ _ _ h => h) (Or.inl ⟨by rfl, ?_⟩) hHeld ?_ ?_
                rotate_left
                · intro w' s0
                  have s1 := (cells_of (blk_below HQ10.out s0)).2.1
                  go_simp
                  with_reducible rfl
                rotate_left
                · simp only [Act.put, List.setIfInBounds_toArray, List.set_cons_zero, List.set_cons_succ]
                  rfl
                refine take_ (i := 3) (N := some 91) (v := ?_) (a' := ?_) #[true, true, true, true, true, false, false, false, true, false, true, false, true, false, false, false, false, false, false, false] rfl rfl (by kernel_rfl) (fun _ _ _ h => h) (Or.inl ⟨by rfl, ?_⟩) hHeld ?_ ?_
                rotate_left
                · intro w' s0
                  have s1 := (cells_of (blk_below HQ1e.out s0)).2.1
                  go_simp
                  with_reducible rfl
                rotate_left
                · simp only [Act.put, List.setIfInBounds_toArray, List.set_cons_zero, List.set_cons_succ]
                  rfl
                refine take_ (i := 9) (N := some 97) (v := ?_) (a' := ?_) #[true, true, true, true, true, false, false, false, true, true, true, false, true, false, false, false, false, false, false, false] rfl rfl (by kernel_rfl) (fun _ _ _ h => h) (Or.inl ⟨by rfl, ?_⟩) hHeld ?_ ?_
                rotate_left
                · intro w' s0
                  have s1 := (cells_of (blk_below HQ10.out s0)).2.2.2
                  go_simp
                  with_reducible rfl
                rotate_left
                · simp only [Act.put, List.setIfInBounds_toArray, List.set_cons_zero, List.set_cons_succ]
                  rfl
                refine take_ (i := 11) (N := some 99) (v := ?_) (a' := ?_) #[true, true, true, true, true, false, false, false, true, true, true, true, true, false, false, false, false, false, false, false] rfl rfl (by kernel_rfl) (fun _ _ _ h => h) (Or.inl ⟨by rfl, ?_⟩) hHeld ?_ ?_
                rotate_left
                · intro w' s0
                  have s1 := (cells_of (blk_below HQ1e.out s0)).2.2.2
                  go_simp
                  with_reducible rfl
                rotate_left
                · simp only [Act.put, List.setIfInBounds_toArray, List.set_cons_zero, List.set_cons_succ]
                  rfl
                refine pure_ (i := 5) (N := some 93) (v := .int .i64 ((c + 1 : Nat) : Int)) (a' := ?_) #[true, true, true, true, true, true, false, false, true, true, true, true, true, false, false, false, false, false, false, false] rfl rfl (by kernel_rfl) (fun _ _ _ h => h) (Or.inl ⟨by rfl, ?_⟩) ?_ ?_
                · intro w'
                  first | (go_simp; done) | (go_simp; rfl) | (go_simp; go_num) | (go_simp; rw [IntKind.wrap_i64]; omega)
                rotate_left
                · simp only [Act.put, List.setIfInBounds_toArray, List.set_cons_zero, List.set_cons_succ]
                  rfl
                refine pure_ (i := 13) (N := some 101) (v := .int .i64 ((c + 1 : Nat) : Int)) (a' := ?_) #[true, true, true, true, true, true, false, false, true, true, true, true, true, true, false, false, false, false, false, false] rfl rfl (by kernel_rfl) (fun _ _ _ h => h) (Or.inl ⟨by rfl, ?_⟩) ?_ ?_
                · intro w'
                  first | (go_simp; done) | (go_simp; rfl) | (go_simp; go_num) | (go_simp; rw [IntKind.wrap_i64]; omega)
                rotate_left
                · simp only [Act.put, List.setIfInBounds_toArray, List.set_cons_zero, List.set_cons_succ]
                  rfl
                refine pure_ (i := 6) (N := some 94) (v := .slice AP (n1 - (c + 1)) (c1 - (c + 1))) (a' := ?_) #[true, true, true, true, true, true, true, false, true, true, true, true, true, true, false, false, false, false, false, false] rfl rfl (by kernel_rfl) (fun _ _ _ h => h) (Or.inl ⟨by rfl, ?_⟩) ?_ ?_
                · intro w'
                  exact ex_lo (x := .tmp 91) (y := .tmp 93) und22 size9 rfl rfl rfl (by have := HCC.out; omega) HAP.out
                rotate_left
                · simp only [Act.put, List.setIfInBounds_toArray, List.set_cons_zero, List.set_cons_succ]
                  rfl
                refine pure_ (i := 14) (N := some 102) (v := .slice AQ (n3 - (c + 1)) (c3 - (c + 1))) (a' := ?_) #[true, true, true, true, true, true, true, false, true, true, true, true, true, true, true, false, false, false, false, false] rfl rfl (by kernel_rfl) (fun _ _ _ h => h) (Or.inl ⟨by rfl, ?_⟩) ?_ ?_
                · intro w'
                  exact ex_lo (x := .tmp 99) (y := .tmp 101) und23 size3 rfl rfl rfl (by have := HCC.out; have := HTL.out; have := HN.out; omega) HAQ.out
                rotate_left
                · simp only [Act.put, List.setIfInBounds_toArray, List.set_cons_zero, List.set_cons_succ]
                  rfl
                refine one_ (i := 7) (N := some 95) #[true, true, true, true, true, true, true, true, true, true, true, true, true, true, true, false, false, false, false, false] rfl rfl (by kernel_rfl) (by decide) (fun K hK => ?_)
                refine Kd.R_append_rows_step Kd.string (w0 := w7) w7.heap.size (by rfl) (.tmp 89) (.tmp 94) 22 9 (.string ⟨#[]⟩) 16 rfl Try.underlying22 INF9.out rfl (by decide) (by decide) (.slice none 0 0) [] Ky AP (n1 - (c + 1)) (c1 - (c + 1)) tt (fun _ => False) rfl rfl (Kd.R_nil _ _ _ _ _) (by rw [HKy.out]; exact dropC (((HCA.out _ ((HB3.out.trans (Hw7.out.mono HB3.out.size)).trans (hHeld.mono (HB3.out.trans (Hw7.out.mono HB3.out.size)).size))).1)) (by have := HCC.out; omega) HCC.out.1 rfl HAP.out) (fun _ _ h => h) (fun _ h => h.elim) (fun _ _ => trivial) hHeld hHeld.size ?hl ?_
                case hl => have := HCC.out; have := HTL.out; have := HN.out; have := HL.out; simp; omega
                intro v6 w6 ho hb hG hat
                have X6 := Aside0.mk (show RowS Kd.string 9 w7.heap.size w6 v6 Ky from rowS_s ho)
                obtain ⟨A6, d6, e5⟩ := Kd.R_slice X6.out
                subst e5
                have hb6 := hb
                have hw6 := w6
                clear ho hG hat
                show K (Act.put _ (some 95) _) _
                simp only [Act.put, List.setIfInBounds_toArray, List.set_cons_zero, List.set_cons_succ]
                refine hK.out _ _ hb6 (fun hHeld => ?_)
                clear hK K hb6 hw6
                refine pure_ (i := 16) (N := some 104) (v := ?_) (a' := ?_) #[true, true, true, true, true, true, true, true, true, true, true, true, true, true, true, false, true, false, false, false] rfl rfl (by kernel_rfl) (fun _ _ _ h => h) (Or.inl ⟨by rfl, ?_⟩) ?_ ?_
                rotate_left
                · intro w'
                  go_simp
                  with_reducible rfl
                rotate_left
                · simp only [Act.put, List.setIfInBounds_toArray, List.set_cons_zero, List.set_cons_succ]
                  rfl
                refine one_ (i := 15) (N := some 103) #[true, true, true, true, true, true, true, true, true, true, true, true, true, true, true, true, true, false, false, false] rfl rfl (by kernel_rfl) (by decide) (fun K hK => ?_)
                refine Kd.R_append_rows_step (Kd.int .i64) (w0 := w7) w7.heap.size (by rfl) (.tmp 97) (.tmp 102) 23 3 (.int .i64 0) 8 rfl Try.underlying23 INF3.out rfl (by decide) (by decide) (.slice none 0 0) [] Vy AQ (n3 - (c + 1)) (c3 - (c + 1)) tt (fun _ => False) rfl rfl (Kd.R_nil _ _ _ _ _) (by rw [HVy.out]; exact dropC (((HCA.out _ ((HB3.out.trans (Hw7.out.mono HB3.out.size)).trans (hHeld.mono (HB3.out.trans (Hw7.out.mono HB3.out.size)).size))).2.2)) (by have := HCC.out; have := HTL.out; have := HN.out; omega) HCC.out.2.2 rfl HAQ.out) (fun _ _ h => h) (fun _ h => h.elim) (fun _ _ => trivial) hHeld hHeld.size ?hl ?_
                case hl => have := HCC.out; have := HTL.out; have := HN.out; have := HL.out; simp; omega
                intro v6 w6 ho hb hG hat
                have X7 := Aside0.mk (show RowS (Kd.int .i64) 3 w7.heap.size w6 v6 Vy from rowS_i ho)
                obtain ⟨A7, d7, e5⟩ := Kd.R_slice X7.out
                subst e5
                have X6 := Aside0.mk (RowS.grown0 X6.out hG)
                have hb6 := hb
                have hw6 := w6
                clear ho hG hat
                show K (Act.put _ (some 103) _) _
                simp only [Act.put, List.setIfInBounds_toArray, List.set_cons_zero, List.set_cons_succ]
                refine hK.out _ _ hb6 (fun hHeld => ?_)
                clear hK K hb6 hw6
                have hq := blk_below HQ10.out hHeld
                obtain ⟨i0, i1, i2, i3⟩ := cells_of hq
                have j0 := frz_of hq 0
                have j1 := frz_of hq 1
                have j2 := frz_of hq 2
                have j3 := frz_of hq 3
                have hp1 := blk_put (cs' := #[.bool false, .slice A6 Ky.length d6, .slice none 0 0, .slice none 0 0]) hq 1 (.slice A6 Ky.length d6) rfl
                refine last_ (i := 17) (N := none) #[true, true, true, true, true, true, true, true, true, true, true, true, true, true, true, true, true, true, false, false] rfl rfl (by kernel_rfl) (by decide) (fun K hK => ?_)
                refine skip_ rfl rfl (w1 := (w6).setCell ⟨g10, 1, none⟩ (.slice A6 Ky.length d6)) (by first | (go_simp; done) | (go_simp; rfl)) ?_
                refine hK.out _ _ ?_
                clear hK K
                refine pure_ (i := 18) (N := some 105) (v := ?_) (a' := ?_) #[true, true, true, true, true, true, true, true, true, true, true, true, true, true, true, true, true, true, true, false] rfl rfl (by kernel_rfl) (fun _ _ _ h => h) (Or.inl ⟨by rfl, ?_⟩) ?_ ?_
                rotate_left
                · intro w'
                  go_simp
                  with_reducible rfl
                rotate_left
                · simp only [Act.put, List.setIfInBounds_toArray, List.set_cons_zero, List.set_cons_succ]
                  rfl
                obtain ⟨i0, i1, i2, i3⟩ := cells_of hp1
                have j0 := frz_of hp1 0
                have j1 := frz_of hp1 1
                have j2 := frz_of hp1 2
                have j3 := frz_of hp1 3
                have hp3 := blk_put (cs' := #[.bool false, .slice A6 Ky.length d6, .slice none 0 0, .slice A7 Vy.length d7]) hp1 3 (.slice A7 Vy.length d7) rfl
                refine last_ (i := 19) (N := none) #[true, true, true, true, true, true, true, true, true, true, true, true, true, true, true, true, true, true, true, true] rfl rfl (by kernel_rfl) (by decide) (fun K hK => ?_)
                refine skip_ rfl rfl (w1 := ((w6).setCell ⟨g10, 1, none⟩ (.slice A6 Ky.length d6)).setCell ⟨g10, 3, none⟩ (.slice A7 Vy.length d7)) (by first | (go_simp; done) | (go_simp; rfl)) ?_
                refine hK.out _ _ ?_
                clear hK K
                refine done_ (by kernel_rfl) ?_
                have ho0 := blk_below HQ9.out hHeld
                have hs0 := Hw7.out.trans (hHeld.mono Hw7.out.size)
                have rX4 := RowS.below X4.out hHeld
                have rX5 := RowS.below X5.out hHeld
                have rX6 := X6.out
                have rX7 := X7.out
                have ho0 := (Below.heap_setCell _ ⟨g10, 1, none⟩ (.slice A6 Ky.length d6) _ HN9.out).trans ho0
                have hs0 := hs0.setCell (p := ⟨g10, 1, none⟩) HG10.out (.slice A6 Ky.length d6)
                have rX4 := RowS.set1 (j := 1) rX4 hq (by decide) (.slice A6 Ky.length d6)
                have rX5 := RowS.set1 (j := 1) rX5 hq (by decide) (.slice A6 Ky.length d6)
                have rX6 := RowS.set1 (j := 1) rX6 hq (by decide) (.slice A6 Ky.length d6)
                have rX7 := RowS.set1 (j := 1) rX7 hq (by decide) (.slice A6 Ky.length d6)
                have ho0 := (Below.heap_setCell _ ⟨g10, 3, none⟩ (.slice A7 Vy.length d7) _ HN9.out).trans ho0
                have hs0 := hs0.setCell (p := ⟨g10, 3, none⟩) HG10.out (.slice A7 Vy.length d7)
                have rX4 := RowS.set1 (j := 3) rX4 hp1 (by decide) (.slice A7 Vy.length d7)
                have rX5 := RowS.set1 (j := 3) rX5 hp1 (by decide) (.slice A7 Vy.length d7)
                have rX6 := RowS.set1 (j := 3) rX6 hp1 (by decide) (.slice A7 Vy.length d7)
                have rX7 := RowS.set1 (j := 3) rX7 hp1 (by decide) (.slice A7 Vy.length d7)
                clear i0 i1 i2 i3 j0 j1 j2 j3
                generalize ((w6).setCell ⟨g10, 1, none⟩ (.slice A6 Ky.length d6)).setCell ⟨g10, 3, none⟩ (.slice A7 Vy.length d7) = w8 at hp3 ho0 hs0 rX4 rX5 rX6 rX7 ⊢
                have X4 := Aside0.mk rX4
                have X5 := Aside0.mk rX5
                have X6 := Aside0.mk rX6
                have X7 := Aside0.mk rX7
                have HQ10 := Aside0.mk hp3
                have HQ9 := Aside0.mk ho0
                have Hw8 := Aside0.mk hs0
                clear hp1 hp3 ho0 hs0 hq hHeld hdr rX4 rX5 rX6 rX7
                go_upto_region 15 with fail
                have hdr : Below w8.heap.size w8 w8.drew := below_drew (Below.refl _ _)
                have HB8 := Aside0.mk (HB3.out.trans (Hw8.out.mono HB3.out.size))
                have HQ1e := Aside0.mk (blk_below HQ1c.out Hw8.out)
                skip
                refine start_ (n := 11) (S := fun w' => Below W.heap.size W w' ∧ w'.heap[g1]? = some (.cells #[.bool false, .slice (some ad) n1 c1, .slice a2 n2 c2, .slice a3 n3 c3] 25 (0, 0)) ∧ w'.heap[g9]? = some (.cells #[.bool false, .slice A4 Kx.length d4, .slice none 0 0, .slice A5 Vx.length d5] 25 (0, 0)) ∧ w'.heap[g10]? = some (.cells #[.bool false, .slice A6 Ky.length d6, .slice none 0 0, .slice A7 Vy.length d7] 25 (0, 0))) (ds := []) #[false, false, false, false, false, false, false, false, false, false, false] (by kernel_rfl) rfl rfl ⟨HB8.out.trans (hdr.mono HB8.out.size), blk_below HQ1e.out hdr, blk_below HQ9.out hdr, blk_below HQ10.out hdr⟩ (fun hHeld => ?_)
                generalize w8.drew = w9 at hdr hHeld ⊢
                have HQ2e := Aside0.mk (blk_below (blk_below HQ2c.out Hw8.out) hdr)
                have HQ4e := Aside0.mk (blk_below (blk_below HQ4c.out Hw8.out) hdr)
                have HLT := Aside0.mk (show (g9 ≠ g2 ∧ g9 ≠ g4) ∧ (g10 ≠ g2 ∧ g10 ≠ g4) by have h1 := HG9.out; have h2 := HG10.out; have h3 := (Array.getElem?_eq_some_iff.1 HQ2c.out).1; have h4 := (Array.getElem?_eq_some_iff.1 HQ4c.out).1; omega)
                refine pure_ (i := 1) (N := some 107) (v := ?_) (a' := ?_) #[false, true, false, false, false, false, false, false, false, false, false] rfl rfl (by kernel_rfl) (fun _ _ _ h => h) (Or.inl ⟨by rfl, ?_⟩) ?_ ?_
                rotate_left
                · intro w'
                  go_simp
                  with_reducible rfl
                rotate_left
                · simp only [Act.put, List.setIfInBounds_toArray, List.set_cons_zero, List.set_cons_succ]
                  rfl
                refine pure_ (i := 3) (N := some 109) (v := ?_) (a' := ?_) #[false, true, false, true, false, false, false, false, false, false, false] rfl rfl (by kernel_rfl) (fun _ _ _ h => h) (Or.inl ⟨by rfl, ?_⟩) ?_ ?_
                rotate_left
                · intro w'
                  go_simp
                  with_reducible rfl
                rotate_left
                · simp only [Act.put, List.setIfInBounds_toArray, List.set_cons_zero, List.set_cons_succ]
                  rfl
                refine take_ (i := 0) (N := some 106) (v := ?_) (a' := ?_) #[true, true, false, true, false, false, false, false, false, false, false] rfl rfl (by kernel_rfl) (fun _ _ _ h => h) (Or.inl ⟨by rfl, ?_⟩) hHeld ?_ ?_
                rotate_left
                · intro w' s0
                  obtain ⟨z0, z1, z2, z3⟩ := cells_of s0.2.2.1
                  go_simp
                  with_reducible rfl
                rotate_left
                · simp only [Act.put, List.setIfInBounds_toArray, List.set_cons_zero, List.set_cons_succ]
                  rfl
                refine take_ (i := 2) (N := some 108) (v := ?_) (a' := ?_) #[true, true, true, true, false, false, false, false, false, false, false] rfl rfl (by kernel_rfl) (fun _ _ _ h => h) (Or.inl ⟨by rfl, ?_⟩) hHeld ?_ ?_
                rotate_left
                · intro w' s0
                  have s1 := (cells_of s0.2.1).2.1
                  go_simp
                  with_reducible rfl
                rotate_left
                · simp only [Act.put, List.setIfInBounds_toArray, List.set_cons_zero, List.set_cons_succ]
                  rfl
                refine take_ (i := 6) (N := some 112) (v := ?_) (a' := ?_) #[true, true, true, true, false, false, true, false, false, false, false] rfl rfl (by kernel_rfl) (fun _ _ _ h => h) (Or.inl ⟨by rfl, ?_⟩) hHeld ?_ ?_
                rotate_left
                · intro w' s0
                  obtain ⟨z0, z1, z2, z3⟩ := cells_of s0.2.2.2
                  go_simp
                  with_reducible rfl
                rotate_left
                · simp only [Act.put, List.setIfInBounds_toArray, List.set_cons_zero, List.set_cons_succ]
                  rfl
                refine pure_ (i := 4) (N := some 110) (v := ?_) (a' := ?_) #[true, true, true, true, true, false, true, false, false, false, false] rfl rfl (by kernel_rfl) (fun _ _ _ h => h) (Or.inl ⟨by rfl, ?_⟩) ?_ ?_
                rotate_left
                · intro w'
                  go_simp
                  with_reducible rfl
                rotate_left
                · simp only [Act.put, List.setIfInBounds_toArray, List.set_cons_zero, List.set_cons_succ]
                  rfl
                refine take_ (i := 5) (N := some 111) (v := ?_) (a' := ?_) #[true, true, true, true, true, true, true, false, false, false, false] rfl rfl (by kernel_rfl) (fun _ _ _ h => h) (Or.inl ⟨by rfl, ?_⟩) hHeld ?_ ?_
                rotate_left
                · intro w' s0
                  have s1 := HST.out w' s0.1
                  go_simp
                  with_reducible rfl
                rotate_left
                · simp only [Act.put, List.setIfInBounds_toArray, List.set_cons_zero, List.set_cons_succ]
                  rfl
                have hq2 := HQ2e.out
                have hq4 := HQ4e.out
                obtain ⟨y0, y1, y2, y3⟩ := cells_of hq2
                have f0 := frz_of hq2 0
                have f1 := frz_of hq2 1
                have f2 := frz_of hq2 2
                have f3 := frz_of hq2 3
                refine one_ (i := 7) (N := none) #[true, true, true, true, true, true, true, true, false, false, false] rfl rfl (by kernel_rfl) (by decide) (fun K hK => ?_)
                refine skip_ rfl rfl (w1 := set4 w9 g2 (.bool false) (.slice A4 Kx.length d4) (.slice none 0 0) (.slice A5 Vx.length d5)) (by first | (go_simp; done) | (go_simp; rfl)) ?_
                refine hK.out _ _ ⟨set4_below hHeld.1 HG2.out _ _ _ _, set4_ne hHeld.2.1 HN1.out.1 _ _ _ _, set4_ne hHeld.2.2.1 HLT.out.1.1 _ _ _ _, set4_ne hHeld.2.2.2 HLT.out.2.1 _ _ _ _⟩ (fun hHeld => ?_)
                clear hK K 
                refine pure_ (i := 8) (N := some 3) (v := ?_) (a' := ?_) #[true, true, true, true, true, true, true, true, true, false, false] rfl rfl (by kernel_rfl) (fun _ _ _ h => h) (Or.inl ⟨by rfl, ?_⟩) ?_ ?_
                rotate_left
                · intro w'
                  go_simp
                  with_reducible rfl
                rotate_left
                · simp only [Act.put, List.setIfInBounds_toArray, List.set_cons_zero, List.set_cons_succ]
                  rfl
                have hA4 := set4_ne hq4 HNE.out (.bool false) (.slice A4 Kx.length d4) (.slice none 0 0) (.slice A5 Vx.length d5)
                obtain ⟨l0, l1, l2, l3⟩ := cells_of hA4
                have r0 := frz_of hA4 0
                have r1 := frz_of hA4 1
                have r2 := frz_of hA4 2
                have r3 := frz_of hA4 3
                refine one_ (i := 9) (N := none) #[true, true, true, true, true, true, true, true, true, true, false] rfl rfl (by kernel_rfl) (by decide) (fun K hK => ?_)
                refine skip_ rfl rfl (w1 := set4 (set4 w9 g2 (.bool false) (.slice A4 Kx.length d4) (.slice none 0 0) (.slice A5 Vx.length d5)) g4 (.bool false) (.slice A6 Ky.length d6) (.slice none 0 0) (.slice A7 Vy.length d7)) (by first | (go_simp; done) | (go_simp; rfl)) ?_
                refine hK.out _ _ ⟨set4_below hHeld.1 HG4.out _ _ _ _, set4_ne hHeld.2.1 HN1.out.2 _ _ _ _, set4_ne hHeld.2.2.1 HLT.out.1.2 _ _ _ _, set4_ne hHeld.2.2.2 HLT.out.2.2 _ _ _ _⟩ (fun hHeld => ?_)
                clear hK K 
                refine pure_ (i := 10) (N := some 5) (v := ?_) (a' := ?_) #[true, true, true, true, true, true, true, true, true, true, true] rfl rfl (by kernel_rfl) (fun _ _ _ h => h) (Or.inl ⟨by rfl, ?_⟩) ?_ ?_
                rotate_left
                · intro w'
                  go_simp
                  with_reducible rfl
                rotate_left
                · simp only [Act.put, List.setIfInBounds_toArray, List.set_cons_zero, List.set_cons_succ]
                  rfl
                refine done_ (by kernel_rfl) ?_
                have hm : m = true := HM.out.2 ⟨HR.out.1 (by first | rfl | trivial), by rw [← HNN.out]; omega, by rw [← HN.out.1]; unfold keepN; simp; omega⟩
                have hA2 := set4_ne (set4_blk hq2 (.bool false) (.slice A4 Kx.length d4) (.slice none 0 0) (.slice A5 Vx.length d5)) hne' (.bool false) (.slice A6 Ky.length d6) (.slice none 0 0) (.slice A7 Vy.length d7)
                have hA5 := set4_blk hA4 (.bool false) (.slice A6 Ky.length d6) (.slice none 0 0) (.slice A7 Vy.length d7)
                have hl5 := (HB3.out.trans (HS5.out.mono HB3.out.size)).size
                have hl7 := (HB3.out.trans (Hw7.out.mono HB3.out.size)).size
                have e4 := ((RowS.below X4.out hdr).set4 hq2 (by decide) (.bool false) (.slice A4 Kx.length d4) (.slice none 0 0) (.slice A5 Vx.length d5)).set4 hA4 (by decide) (.bool false) (.slice A6 Ky.length d6) (.slice none 0 0) (.slice A7 Vy.length d7)
                have e5 := ((RowS.below X5.out hdr).set4 hq2 (by decide) (.bool false) (.slice A4 Kx.length d4) (.slice none 0 0) (.slice A5 Vx.length d5)).set4 hA4 (by decide) (.bool false) (.slice A6 Ky.length d6) (.slice none 0 0) (.slice A7 Vy.length d7)
                have e6 := ((RowS.below X6.out hdr).set4 hq2 (by decide) (.bool false) (.slice A4 Kx.length d4) (.slice none 0 0) (.slice A5 Vx.length d5)).set4 hA4 (by decide) (.bool false) (.slice A6 Ky.length d6) (.slice none 0 0) (.slice A7 Vy.length d7)
                have e7 := ((RowS.below X7.out hdr).set4 hq2 (by decide) (.bool false) (.slice A4 Kx.length d4) (.slice none 0 0) (.slice A5 Vx.length d5)).set4 hA4 (by decide) (.bool false) (.slice A6 Ky.length d6) (.slice none 0 0) (.slice A7 Vy.length d7)
                have hbd := HB8.out.trans (hdr.mono HB8.out.size)
                go_wp2
                refine bodyPost_ret (results_list (rs := [.cell 2 25, .tmp 3, .cell 4 25, .tmp 5]) rfl (by simp) (.cell g2 25 _ (0, 0) _ rfl hA2 Try.underlying25 rfl (by kernel_rfl) (.tmp (.cell g4 25 _ (0, 0) _ rfl hA5 Try.underlying25 rfl (by kernel_rfl) (.tmp .nil))))) rfl ?_
                refine ⟨_, rfl, .inr ⟨hm, c, ⟨A4, d4, none, 0, A5, d5⟩, ⟨A6, d6, none, 0, A7, d7⟩, ?_, ?_, ?_, ?_⟩, set4_below (set4_below hbd HG2.out _ _ _ _) HG4.out _ _ _ _⟩
                · have h := HCU.out
                  rw [HM0.out.1, HN.out.1] at h
                  exact h
                · show _ = Value.tuple #[.agg #[.bool false, .slice A4 (K.take c).length d4, .slice none 0 0, .slice A5 (D.take (c + 1)).length d5], .string (K.getD c ByteArray.empty), .agg #[.bool false, .slice A6 (K.drop (c + 1)).length d6, .slice none 0 0, .slice A7 (D.drop (c + 1)).length d7], .bool true]
                  rw [← HKx.out, ← HVx.out, ← HKy.out, ← HVy.out, ← HKC.out]
                  rfl
                · exact ⟨(by show RowR Kd.string 9 W.heap.size _ (.slice A4 (K.take c).length d4) (K.take c); rw [← HKx.out]; exact Kd.R_lower (RowS.tt e4) (Nat.le_trans HB3.out.size (Nat.le_refl _))), Kd.R_nil _ _ _ _ _, (by show RowR (Kd.int .i64) 3 W.heap.size _ (.slice A5 (D.take (c + 1)).length d5) (D.take (c + 1)); rw [← HVx.out]; exact Kd.R_lower (RowS.tt e5) hl5)⟩
                · exact ⟨(by show RowR Kd.string 9 W.heap.size _ (.slice A6 (K.drop (c + 1)).length d6) (K.drop (c + 1)); rw [← HKy.out]; exact Kd.R_lower (RowS.tt e6) hl7), Kd.R_nil _ _ _ _ _, (by show RowR (Kd.int .i64) 3 W.heap.size _ (.slice A7 (D.drop (c + 1)).length d7) (D.drop (c + 1)); rw [← HVy.out]; exact Kd.R_lower (RowS.tt e7) hl7)⟩
  | true =>
    cases r1 with
    | false =>
      go_wp2_with (go_at_call 9; refine (HC1.out w0 HB0.out).mono ?_; rintro e w1 ⟨rfl, h1⟩; have HB1 := Aside0.mk (HB0.out.trans (h1.mono HB0.out.size)); have hq1 := blk_below HQ1.out h1; have hq2 := blk_below HQ2.out h1; have hq4 := blk_below HQ4.out h1; obtain ⟨z0, z1, z2, z3⟩ := cells_of hq1; obtain ⟨y0, y1, y2, y3⟩ := cells_of hq2; have f0 := frz_of hq2 0; have f1 := frz_of hq2 1; have f2 := frz_of hq2 2; have f3 := frz_of hq2 3; obtain ⟨v0, v1, v2, v3⟩ := cells_of hq4; have u0 := frz_of hq4 0; have u1 := frz_of hq4 1; have u2 := frz_of hq4 2; have u3 := frz_of hq4 3; have HQ1a := Aside0.mk hq1; have HQ2a := Aside0.mk hq2; have HQ4a := Aside0.mk hq4; clear h1 hq1 hq2 hq4)
      have hm : m = false := by
        cases m with
        | false => rfl
        | true => exact absurd (HR.out.2 (HM.out.1 rfl).1) (by decide)
      have hA := set4_ne (set4_blk HQ2a.out (.bool false) (.slice none 0 0) (.slice none 0 0) (.slice none 0 0)) hne' (.bool false) (.slice none 0 0) (.slice none 0 0) (.slice none 0 0)
      have hA4 := set4_blk (set4_ne HQ4a.out hne (.bool false) (.slice none 0 0) (.slice none 0 0) (.slice none 0 0)) (.bool false) (.slice none 0 0) (.slice none 0 0) (.slice none 0 0)
      refine bodyPost_ret (results_list (rs := [.cell 2 25, .tmp 3, .cell 4 25, .tmp 5]) rfl (by simp) (.cell g2 25 #[.bool false, .slice none 0 0, .slice none 0 0, .slice none 0 0] (0, 0) _ rfl hA Try.underlying25 rfl (by kernel_rfl) (.tmp (.cell g4 25 #[.bool false, .slice none 0 0, .slice none 0 0, .slice none 0 0] (0, 0) _ rfl hA4 Try.underlying25 rfl (by kernel_rfl) (.tmp .nil))))) rfl ?_
      exact ⟨_, rfl, .inl ⟨hm, rfl⟩, set4_below (set4_below HB1.out HG2.out _ _ _ _) HG4.out _ _ _ _⟩
    | true =>
      have HSM := Aside0.mk (small_can (HR.out.1 rfl) (by have := HL.out; omega) (by have := HL.out; omega))
      obtain ⟨N, hN⟩ : ∃ N, N = needTo true K V K.length := ⟨_, rfl⟩
      have hnd := fun (w : World) (hB : Below W.heap.size W w) => rneed_c (HK1.out.below hB) HSM.out.1 HSM.out.2.1 K.length (Nat.le_refl _)
      rw [← hN, ← HN.out.1, ← HN.out.2.1, ← HN.out.2.2] at hnd
      dsimp only at hnd
      have HND := Aside0.mk hnd
      have HNN := Aside0.mk hN
      clear hnd hN
      by_cases hlim : N ≤ 509
      · have e1 : decide (N ≤ 509) = true := decide_eq_true hlim
        go_wp2_with (first
          | (go_at_call 20; refine (HND.out w1 HB1.out).mono ?_; rintro e w2 ⟨rfl, h1⟩; have HB2 := Aside0.mk (HB1.out.trans (h1.mono HB1.out.size)); have hq1 := blk_below HQ1a.out h1; have hq2 := blk_below HQ2a.out h1; have hq4 := blk_below HQ4a.out h1; obtain ⟨t0, t1, t2, t3⟩ := cells_of hq1; obtain ⟨y0, y1, y2, y3⟩ := cells_of hq2; have f0 := frz_of hq2 0; have f1 := frz_of hq2 1; have f2 := frz_of hq2 2; have f3 := frz_of hq2 3; obtain ⟨v0, v1, v2, v3⟩ := cells_of hq4; have u0 := frz_of hq4 0; have u1 := frz_of hq4 1; have u2 := frz_of hq4 2; have u3 := frz_of hq4 3; have HQ1b := Aside0.mk hq1; have HQ2b := Aside0.mk hq2; have HQ4b := Aside0.mk hq4; clear h1 hq1 hq2 hq4)
          | (go_at_call 9; refine (HC1.out w0 HB0.out).mono ?_; rintro e w1 ⟨rfl, h1⟩; have HB1 := Aside0.mk (HB0.out.trans (h1.mono HB0.out.size)); have hq1 := blk_below HQ1.out h1; have hq2 := blk_below HQ2.out h1; have hq4 := blk_below HQ4.out h1; obtain ⟨z0, z1, z2, z3⟩ := cells_of hq1;  have HQ1a := Aside0.mk hq1; have HQ2a := Aside0.mk hq2; have HQ4a := Aside0.mk hq4; clear h1 hq1 hq2 hq4))
        have hm : m = false := by
          cases m with
          | false => rfl
          | true => exact absurd (by have h := (HM.out.1 rfl).2.1; rw [← HNN.out] at h; omega : false = true) (by decide)
        have hA := set4_ne (set4_blk HQ2b.out (.bool false) (.slice none 0 0) (.slice none 0 0) (.slice none 0 0)) hne' (.bool false) (.slice none 0 0) (.slice none 0 0) (.slice none 0 0)
        have hA4 := set4_blk (set4_ne HQ4b.out hne (.bool false) (.slice none 0 0) (.slice none 0 0) (.slice none 0 0)) (.bool false) (.slice none 0 0) (.slice none 0 0) (.slice none 0 0)
        refine bodyPost_ret (results_list (rs := [.cell 2 25, .tmp 3, .cell 4 25, .tmp 5]) rfl (by simp) (.cell g2 25 #[.bool false, .slice none 0 0, .slice none 0 0, .slice none 0 0] (0, 0) _ rfl hA Try.underlying25 rfl (by kernel_rfl) (.tmp (.cell g4 25 #[.bool false, .slice none 0 0, .slice none 0 0, .slice none 0 0] (0, 0) _ rfl hA4 Try.underlying25 rfl (by kernel_rfl) (.tmp .nil))))) rfl ?_
        exact ⟨_, rfl, .inl ⟨hm, rfl⟩, set4_below (set4_below HB2.out HG2.out _ _ _ _) HG4.out _ _ _ _⟩
      · have e1 : decide (N ≤ 509) = false := decide_eq_false hlim
        by_cases hk : n1 ≤ 1
        · have e2 : decide ((n1 : Int) ≤ 1) = true := decide_eq_true (by omega)
          go_wp2_with (first
            | (go_at_call 20; refine (HND.out w1 HB1.out).mono ?_; rintro e w2 ⟨rfl, h1⟩; have HB2 := Aside0.mk (HB1.out.trans (h1.mono HB1.out.size)); have hq1 := blk_below HQ1a.out h1; have hq2 := blk_below HQ2a.out h1; have hq4 := blk_below HQ4a.out h1; obtain ⟨t0, t1, t2, t3⟩ := cells_of hq1; obtain ⟨y0, y1, y2, y3⟩ := cells_of hq2; have f0 := frz_of hq2 0; have f1 := frz_of hq2 1; have f2 := frz_of hq2 2; have f3 := frz_of hq2 3; obtain ⟨v0, v1, v2, v3⟩ := cells_of hq4; have u0 := frz_of hq4 0; have u1 := frz_of hq4 1; have u2 := frz_of hq4 2; have u3 := frz_of hq4 3; have HQ1b := Aside0.mk hq1; have HQ2b := Aside0.mk hq2; have HQ4b := Aside0.mk hq4; clear h1 hq1 hq2 hq4)
            | (go_at_call 9; refine (HC1.out w0 HB0.out).mono ?_; rintro e w1 ⟨rfl, h1⟩; have HB1 := Aside0.mk (HB0.out.trans (h1.mono HB0.out.size)); have hq1 := blk_below HQ1.out h1; have hq2 := blk_below HQ2.out h1; have hq4 := blk_below HQ4.out h1; obtain ⟨z0, z1, z2, z3⟩ := cells_of hq1;  have HQ1a := Aside0.mk hq1; have HQ2a := Aside0.mk hq2; have HQ4a := Aside0.mk hq4; clear h1 hq1 hq2 hq4))
          have hm : m = false := by
            cases m with
            | false => rfl
            | true => exact absurd (by have h := (HM.out.1 rfl).2.2; rw [← HN.out.1] at h; unfold keepN at h; simp at h; omega : false = true) (by decide)
          have hA := set4_ne (set4_blk HQ2b.out (.bool false) (.slice none 0 0) (.slice none 0 0) (.slice none 0 0)) hne' (.bool false) (.slice none 0 0) (.slice none 0 0) (.slice none 0 0)
          have hA4 := set4_blk (set4_ne HQ4b.out hne (.bool false) (.slice none 0 0) (.slice none 0 0) (.slice none 0 0)) (.bool false) (.slice none 0 0) (.slice none 0 0) (.slice none 0 0)
          refine bodyPost_ret (results_list (rs := [.cell 2 25, .tmp 3, .cell 4 25, .tmp 5]) rfl (by simp) (.cell g2 25 #[.bool false, .slice none 0 0, .slice none 0 0, .slice none 0 0] (0, 0) _ rfl hA Try.underlying25 rfl (by kernel_rfl) (.tmp (.cell g4 25 #[.bool false, .slice none 0 0, .slice none 0 0, .slice none 0 0] (0, 0) _ rfl hA4 Try.underlying25 rfl (by kernel_rfl) (.tmp .nil))))) rfl ?_
          exact ⟨_, rfl, .inl ⟨hm, rfl⟩, set4_below (set4_below HB2.out HG2.out _ _ _ _) HG4.out _ _ _ _⟩
        · have e2 : decide ((n1 : Int) ≤ 1) = false := decide_eq_false (by omega)
          obtain ⟨m0, hm0⟩ : ∃ m0 : Nat, m0 = n1 - 1 := ⟨_, rfl⟩
          have em0 : wrap64 ((n1 : Int) - 1) = (m0 : Int) := (wrap_in (by have := HL.out; have := HN.out; omega) (by have := HL.out; have := HN.out; omega)).trans (by omega)
          have hm1 : m0 ≤ n1 ∧ n1 ≤ 300 := by have := HL.out; have := HN.out; omega
          have HND2 := Aside0.mk (show ∀ (w : World) (hB : Below W.heap.size W w) (k : Nat) (hk : k ≤ n1), Calls Try.prog 20 #[.agg #[.bool true, .slice a1 n1 c1, .slice a2 n2 c2, .slice a3 n3 c3], .int .i64 k] w (fun e w' => e = .returned (.int .i64 (needTo true K V k)) ∧ Below w.heap.size w w') from fun w hB k hk => by
            have h := rneed_c (HK1.out.below hB) HSM.out.1 HSM.out.2.1 k (by rw [← HN.out.1]; exact hk)
            rw [← HN.out.1, ← HN.out.2.1, ← HN.out.2.2] at h
            exact h)
          go_upto_block 0 with (first
            | (go_at_call 20; refine (HND.out w1 HB1.out).mono ?_; rintro e w2 ⟨rfl, h1⟩; have HB2 := Aside0.mk (HB1.out.trans (h1.mono HB1.out.size)); have hq1 := blk_below HQ1a.out h1; have hq2 := blk_below HQ2a.out h1; have hq4 := blk_below HQ4a.out h1; obtain ⟨t0, t1, t2, t3⟩ := cells_of hq1; obtain ⟨y0, y1, y2, y3⟩ := cells_of hq2; have f0 := frz_of hq2 0; have f1 := frz_of hq2 1; have f2 := frz_of hq2 2; have f3 := frz_of hq2 3; obtain ⟨v0, v1, v2, v3⟩ := cells_of hq4; have u0 := frz_of hq4 0; have u1 := frz_of hq4 1; have u2 := frz_of hq4 2; have u3 := frz_of hq4 3; have HQ1b := Aside0.mk hq1; have HQ2b := Aside0.mk hq2; have HQ4b := Aside0.mk hq4; clear h1 hq1 hq2 hq4)
            | (go_at_call 9; refine (HC1.out w0 HB0.out).mono ?_; rintro e w1 ⟨rfl, h1⟩; have HB1 := Aside0.mk (HB0.out.trans (h1.mono HB0.out.size)); have hq1 := blk_below HQ1.out h1; have hq2 := blk_below HQ2.out h1; have hq4 := blk_below HQ4.out h1; obtain ⟨z0, z1, z2, z3⟩ := cells_of hq1;  have HQ1a := Aside0.mk hq1; have HQ2a := Aside0.mk hq2; have HQ4a := Aside0.mk hq4; clear h1 hq1 hq2 hq4))
          have em1 : (n1 : Int) - 1 = (m0 : Int) := by omega
          first | rw [em0] | rw [em1]
          clear em1
          have HM0 := Aside0.mk (And.intro hm0 em0)
          have hmi : m0 ≤ 300 := by omega
          clear em0 hm0
          go_wp2_with fail
          go_loopw [8] (fun x wr => ∃ (c : Nat), c ≤ m0 ∧ x = .int .i64 c ∧ (c = m0 ∨ 509 < needTo true K V (c + 1)) ∧ Aside0 (Below w2.heap.size w2 wr)) (fun x _ => (intOf x).toNat)
          case atStart => exact ⟨m0, Nat.le_refl _, rfl, .inl rfl, ⟨Below.refl _ _⟩⟩
          case round =>
            obtain ⟨c, hcm, rfl, hcu, HBk⟩ := hrel
            have hq1 := blk_below HQ1b.out HBk.out
            obtain ⟨s0, s1, s2, s3⟩ := cells_of hq1
            have HBr := Aside0.mk (HB2.out.trans (HBk.out.mono HB2.out.size))
            have hnd := HND2.out wr HBr.out c (by omega)
            obtain ⟨M, hM⟩ : ∃ M, M = needTo true K V c := ⟨_, rfl⟩
            rw [← hM] at hnd
            have HD := Aside0.mk hnd
            have HMM := Aside0.mk hM
            have HCU0 := Aside0.mk hcu
            clear hnd hq1 hcu
            by_cases hov : 509 < M
            · have e3 : decide (509 < M) = true := decide_eq_true hov
              have hc1 : 1 ≤ c := by
                rcases Nat.eq_zero_or_pos c with h | h
                · subst h
                  rw [hM] at hov
                  unfold needTo at hov
                  simp at hov
                · exact h
              clear hM
              go_wp2_with (go_at_call 20; refine HD.out.mono ?_; rintro e w3 ⟨rfl, h1⟩; have HB3 := Aside0.mk (HBk.out.trans (h1.mono HBk.out.size)); clear h1)
              go_roundw
              case rel => exact ⟨c - 1, by omega, by go_num, .inr (by rw [Nat.sub_add_cancel hc1, ← HMM.out]; exact hov), HB3⟩
              case measure => simp [intOf]; omega
            · have e3 : decide (509 < M) = false := decide_eq_false hov
              have HCU := Aside0.mk (show IsCut true K V m0 c from ⟨hcm, by rw [← hM]; omega, HCU0.out⟩)
              clear hM
              go_upto_region 9 with (go_at_call 20; refine HD.out.mono ?_; rintro e w3 ⟨rfl, h1⟩; have HBq := Aside0.mk (HBk.out.trans (h1.mono HBk.out.size)); have HB3 := Aside0.mk (HBr.out.trans (h1.mono HBr.out.size)); clear h1)
              have HQ1c := Aside0.mk (blk_below HQ1b.out HBq.out)
              have HQ2c := Aside0.mk (blk_below HQ2b.out HBq.out)
              have HQ4c := Aside0.mk (blk_below HQ4b.out HBq.out)
              have hcn : c < n1 := by have := HM0.out.1; omega
              have hcb : c ≤ 300 := by omega
              clear hcm s0 s1 s2 s3
              have HCA := Aside0.mk (show ∀ w, Below W.heap.size W w → Kd.C Kd.string w a1 n1 K ∧ Kd.C Kd.string w a2 n2 V ∧ Kd.C (Kd.int .i64) w a3 n3 D from fun w hw => by
                have h := HK1.out.below hw
                have hn := HN.out
                rw [hn.1, hn.2.1, hn.2.2]
                exact ⟨h.k, h.v, h.d⟩)
              have HCC := Aside0.mk (show n1 ≤ c1 ∧ n2 ≤ c2 ∧ n3 ≤ c3 by
                have hn := HN.out
                have h := HK1.out
                exact ⟨by rw [hn.1]; exact h.kc, by rw [hn.2.1]; exact h.vc, by rw [hn.2.2]; exact h.dc⟩)
              have HTL := Aside0.mk ((tail_lens (HR.out.1 (by first | rfl | trivial))).1 rfl)
              obtain ⟨ad, hA, cel⟩ := Kd.at_string (HCA.out w3 HB3.out).1 (c : Int) (by omega) (by omega)
              subst hA
              clear cel
              obtain ⟨kc, hkc⟩ : ∃ kc, kc = K.getD c ByteArray.empty := ⟨_, rfl⟩
              have HST := Aside0.mk (show ∀ w', Below W.heap.size W w' → w'.cell? (ad.add c) = some (.string kc) from fun w' hw => by
                obtain ⟨ad', hA', cel'⟩ := Kd.at_string (HCA.out w' hw).1 (c : Int) (by omega) (by omega)
                injection hA' with hA'
                subst hA'
                rw [hkc]
                exact cel')
              have HKC := Aside0.mk hkc
              clear hkc
              have info9 : (Try.prog.info? 9).map (fun i => (i.zero, i.size, i.bytes)) = some (some (.string ⟨#[]⟩), 1, 16) := by kernel_rfl
              have info3 : (Try.prog.info? 3).map (fun i => (i.zero, i.size, i.bytes)) = some (some (.int .i64 0), 1, 8) := by kernel_rfl
              have INF9 := Aside0.mk info9
              have INF3 := Aside0.mk info3
              clear info9 info3
              obtain ⟨Kx, hKx⟩ : ∃ l, l = K.take c := ⟨_, rfl⟩
              have HKx := Aside0.mk hKx
              clear hKx
              obtain ⟨Ky, hKy⟩ : ∃ l, l = K.drop c := ⟨_, rfl⟩
              have HKy := Aside0.mk hKy
              clear hKy
              obtain ⟨Vx, hVx⟩ : ∃ l, l = V.take c := ⟨_, rfl⟩
              have HVx := Aside0.mk hVx
              clear hVx
              obtain ⟨Vy, hVy⟩ : ∃ l, l = V.drop c := ⟨_, rfl⟩
              have HVy := Aside0.mk hVy
              clear hVy
              obtain ⟨AP, hAP⟩ : ∃ AP : Option Addr, AP = if c1 = c then some ad else (some ad).map (·.add (c * 1)) := ⟨_, rfl⟩
              obtain ⟨AQ, hAQ⟩ : ∃ AQ : Option Addr, AQ = if c2 = c then a2 else a2.map (·.add (c * 1)) := ⟨_, rfl⟩
              have HAP := Aside0.mk hAP
              have HAQ := Aside0.mk hAQ
              clear hAP hAQ
              have hdr : Below w3.heap.size w3 w3.drew := below_drew (Below.refl _ _)
              refine start_ (n := 16) (S := fun w' => Below w3.heap.size w3 w') (ds := []) #[false, false, false, false, false, false, false, false, false, false, false, false, false, false, false, false] (by kernel_rfl) rfl rfl hdr (fun hHeld => ?_)
              refine pure_ (i := 0) (N := some 41) (v := ?_) (a' := ?_) #[true, false, false, false, false, false, false, false, false, false, false, false, false, false, false, false] rfl rfl (by kernel_rfl) (fun _ _ _ h => h) (Or.inl ⟨by rfl, ?_⟩) ?_ ?_
              rotate_left
              · intro w'
                go_simp
                with_reducible rfl
              rotate_left
              · simp only [Act.put, List.setIfInBounds_toArray, List.set_cons_zero, List.set_cons_succ]
                rfl
              refine pure_ (i := 3) (N := some 44) (v := ?_) (a' := ?_) #[true, false, false, true, false, false, false, false, false, false, false, false, false, false, false, false] rfl rfl (by kernel_rfl) (fun _ _ _ h => h) (Or.inl ⟨by rfl, ?_⟩) ?_ ?_
              rotate_left
              · intro w'
                go_simp
                with_reducible rfl
              rotate_left
              · simp only [Act.put, List.setIfInBounds_toArray, List.set_cons_zero, List.set_cons_succ]
                rfl
              refine pure_ (i := 5) (N := some 46) (v := ?_) (a' := ?_) #[true, false, false, true, false, true, false, false, false, false, false, false, false, false, false, false] rfl rfl (by kernel_rfl) (fun _ _ _ h => h) (Or.inl ⟨by rfl, ?_⟩) ?_ ?_
              rotate_left
              · intro w'
                go_simp
                with_reducible rfl
              rotate_left
              · simp only [Act.put, List.setIfInBounds_toArray, List.set_cons_zero, List.set_cons_succ]
                rfl
              refine pure_ (i := 9) (N := some 50) (v := ?_) (a' := ?_) #[true, false, false, true, false, true, false, false, false, true, false, false, false, false, false, false] rfl rfl (by kernel_rfl) (fun _ _ _ h => h) (Or.inl ⟨by rfl, ?_⟩) ?_ ?_
              rotate_left
              · intro w'
                go_simp
                with_reducible rfl
              rotate_left
              · simp only [Act.put, List.setIfInBounds_toArray, List.set_cons_zero, List.set_cons_succ]
                rfl
              refine take_ (i := 1) (N := some 42) (v := ?_) (a' := ?_) #[true, true, false, true, false, true, false, false, false, true, false, false, false, false, false, false] rfl rfl (by kernel_rfl) (fun _ _ _ h => h) (Or.inl ⟨by rfl, ?_⟩) hHeld ?_ ?_
              rotate_left
              · intro w' s0
                have s1 := (cells_of (blk_below HQ1c.out s0)).1
                go_simp
                with_reducible rfl
              rotate_left
              · simp only [Act.put, List.setIfInBounds_toArray, List.set_cons_zero, List.set_cons_succ]
                rfl
              refine take_ (i := 4) (N := some 45) (v := ?_) (a' := ?_) #[true, true, false, true, true, true, false, false, false, true, false, false, false, false, false, false] rfl rfl (by kernel_rfl) (fun _ _ _ h => h) (Or.inl ⟨by rfl, ?_⟩) hHeld ?_ ?_
              rotate_left
              · intro w' s0
                have s1 := (cells_of (blk_below HQ1c.out s0)).2.1
                go_simp
                with_reducible rfl
              rotate_left
              · simp only [Act.put, List.setIfInBounds_toArray, List.set_cons_zero, List.set_cons_succ]
                rfl
              refine take_ (i := 10) (N := some 51) (v := ?_) (a' := ?_) #[true, true, false, true, true, true, false, false, false, true, true, false, false, false, false, false] rfl rfl (by kernel_rfl) (fun _ _ _ h => h) (Or.inl ⟨by rfl, ?_⟩) hHeld ?_ ?_
              rotate_left
              · intro w' s0
                have s1 := (cells_of (blk_below HQ1c.out s0)).1
                go_simp
                with_reducible rfl
              rotate_left
              · simp only [Act.put, List.setIfInBounds_toArray, List.set_cons_zero, List.set_cons_succ]
                rfl
              refine pure_ (i := 6) (N := some 47) (v := .slice (some ad) c c1) (a' := ?_) #[true, true, false, true, true, true, true, false, false, true, true, false, false, false, false, false] rfl rfl (by kernel_rfl) (fun _ _ _ h => h) (Or.inl ⟨by rfl, ?_⟩) ?_ ?_
              · intro w'
                exact ex_hi (x := .tmp 45) (y := .tmp 46) und22 size9 rfl rfl rfl (by have := HCC.out; omega)
              rotate_left
              · simp only [Act.put, List.setIfInBounds_toArray, List.set_cons_zero, List.set_cons_succ]
                rfl
              refine pure_ (i := 11) (N := some 52) (v := .agg #[.bool true, .slice none 0 0, .slice none 0 0, .slice none 0 0]) (a' := ?_) #[true, true, false, true, true, true, true, false, false, true, true, true, false, false, false, false] rfl rfl (by kernel_rfl) (fun _ _ _ h => h) (Or.inl ⟨by rfl, ?_⟩) ?_ ?_
              · intro w'
                go_simp
              rotate_left
              · simp only [Act.put, List.setIfInBounds_toArray, List.set_cons_zero, List.set_cons_succ]
                rfl
              refine lattice3 (l0 := #[true, true, false, true, true, true, true, false, false, true, true, true, false, false, false, false]) [2, 7, 8, 12, 13] [[false, false, false, false, false], [true, false, false, false, false], [true, true, false, false, false], [true, true, true, false, false], [false, false, false, true, false], [true, false, false, true, false], [true, true, false, true, false], [true, true, true, true, false], [false, false, false, false, true], [true, false, false, false, true], [true, true, false, false, true], [true, true, true, false, true], [false, false, false, true, true], [true, false, false, true, true], [true, true, false, true, true], [true, true, true, true, true]] [43, 48, 49, 9, 10] (by kernel_rfl) (by kernel_rfl) (by decide) (by kernel_rfl) (by kernel_rfl) (by kernel_rfl) (fun d xs w' => ∃ x0 x1 x2 x3 x4, xs = [x0, x1, x2, x3, x4] ∧ (d.getD 0 false = true → d.getD 1 true = false → RowS Kd.string 9 w3.heap.size w' x0 ([] : List ByteArray)) ∧ (d.getD 1 false = true → RowS Kd.string 9 w3.heap.size w' x1 Kx) ∧ (d.getD 2 false = true → x2 = .agg #[.bool true, x1, .slice none 0 0, .slice none 0 0]) ∧ (d.getD 3 false = true → BoxAt w3.heap.size w' x3 #[.bool false, .slice none 0 0, .slice none 0 0, .slice none 0 0]) ∧ (d.getD 4 false = true → BoxAt w3.heap.size w' x4 #[.bool false, .slice none 0 0, .slice none 0 0, .slice none 0 0]) ∧ (d.getD 3 false = true → d.getD 4 false = true → PNe x3 x4)) 2 rfl (by kernel_rfl) hHeld ?hF ?hstep ?hfin
              case hF =>
                intro xs hx
                match xs, hx with
                | [x0, x1, x2, x3, x4], _ => exact ⟨x0, x1, x2, x3, x4, rfl, fun h _ => absurd h (by decide), fun h => absurd h (by decide), fun h => absurd h (by decide), fun h => absurd h (by decide), fun h => absurd h (by decide), fun h _ => absurd h (by decide)⟩
              case hstep =>
                intro j hj
                have hj : j < 5 := hj
                rcases (by omega : j = 0 ∨ j = 1 ∨ j = 2 ∨ j = 3 ∨ j = 4) with rfl | rfl | rfl | rfl | rfl
                · intro d hd hjn hn xs wl hx hSl ⟨x0, x1, x2, x3, x4, hxs, frA, frB, fbd, fp, fq, fne⟩ a' ha o ho K hK
                  subst hxs
                  obtain rfl := Option.some.inj (ho.symm.trans (rfl : _ = some _))
                  simp only [putVs, Act.put, List.setIfInBounds_toArray, List.set_cons_zero, List.set_cons_succ] at ha
                  subst ha
                  refine Kd.R_lit_step Kd.string w3.heap.size 9 ?hg (N := 43) ?hd (xs := ([] : List ByteArray)) (inner := []) (ok := tt) (okp := tt) ?hr ?hp (fun _ hk => hk) trivial hSl hSl.size (by simp) ?_; (case hd => rfl); (case hg => rfl); (case hr => first | (go_simp; done) | (go_simp; rfl)); (case hp => exact (Reps.none _ _))
                  intro v6 w6 ho hS6 hG hnew
                  have hnewrow := rowS_s ho
                  exact hK.out _ _ hS6 ⟨_, _, _, _, _, rfl, fun h0 n1 => hnewrow, fun h1 => absurd ((on_ne d 0 1 (by decide)).symm.trans h1) (fun h2 => bit_abs (before_of (j := 0) (k := 1) (by kernel_rfl) hd hjn hn) h2), fun h2 => absurd ((on_ne d 0 2 (by decide)).symm.trans h2) (fun h2 => bit_abs (before_of (j := 0) (k := 2) (by kernel_rfl) hd hjn hn) h2), fun h3 => BoxAt.grown0 (fp ((on_ne d 0 3 (by decide)).symm.trans h3)) hG, fun h4 => BoxAt.grown0 (fq ((on_ne d 0 4 (by decide)).symm.trans h4)) hG, fun h3 h4 => (fne ((on_ne d 0 3 (by decide)).symm.trans h3) ((on_ne d 0 4 (by decide)).symm.trans h4))⟩
                · intro d hd hjn hn xs wl hx hSl ⟨x0, x1, x2, x3, x4, hxs, frA, frB, fbd, fp, fq, fne⟩ a' ha o ho K hK
                  subst hxs
                  obtain rfl := Option.some.inj (ho.symm.trans (rfl : _ = some _))
                  simp only [putVs, Act.put, List.setIfInBounds_toArray, List.set_cons_zero, List.set_cons_succ] at ha
                  subst ha
                  have grA := frA (after_of (j := 1) (k := 0) (by kernel_rfl) hd hjn hn) hjn
                  refine Kd.R_append_rows_step Kd.string (w0 := w3) w3.heap.size (by rfl) (.tmp 43) (.tmp 47) 22 9 (.string ⟨#[]⟩) 16 rfl Try.underlying22 INF9.out rfl (by decide) (by decide) x0 [] Kx (some ad) c c1 tt (fun _ => False) rfl rfl (RowS.tt grA) (by rw [HKx.out]; exact takeC ((HCA.out _ (HB3.out.trans (hSl.mono HB3.out.size))).1) (by have := HCC.out; omega)) (fun _ _ h => h) (fun _ h => h.elim) (fun _ _ => trivial) hSl hSl.size ?hl ?_
                  case hl => simp; omega
                  intro v6 w6 ho hS6 hG hat
                  have hnewrow : RowS Kd.string 9 w3.heap.size w6 v6 Kx := rowS_s ho
                  exact hK.out _ _ hS6 ⟨_, _, _, _, _, rfl, fun h0 n1 => absurd n1 (by rw [on_att]; decide), fun h1 => hnewrow, fun h2 => absurd ((on_ne d 1 2 (by decide)).symm.trans h2) (fun h2 => bit_abs (before_of (j := 1) (k := 2) (by kernel_rfl) hd hjn hn) h2), fun h3 => BoxAt.grown (fp ((on_ne d 1 3 (by decide)).symm.trans h3)) grA (by decide) hG, fun h4 => BoxAt.grown (fq ((on_ne d 1 4 (by decide)).symm.trans h4)) grA (by decide) hG, fun h3 h4 => (fne ((on_ne d 1 3 (by decide)).symm.trans h3) ((on_ne d 1 4 (by decide)).symm.trans h4))⟩
                · intro d hd hjn hn xs wl hx hSl ⟨x0, x1, x2, x3, x4, hxs, frA, frB, fbd, fp, fq, fne⟩ a' ha o ho K hK
                  subst hxs
                  obtain rfl := Option.some.inj (ho.symm.trans (rfl : _ = some _))
                  simp only [putVs, Act.put, List.setIfInBounds_toArray, List.set_cons_zero, List.set_cons_succ] at ha
                  subst ha
                  have grB := frB (after_of (j := 2) (k := 1) (by kernel_rfl) hd hjn hn)
                  obtain ⟨A4, d4, rfl⟩ := Kd.R_slice grB
                  refine value_ rfl rfl (v := .agg #[.bool true, .slice A4 Kx.length d4, .slice none 0 0, .slice none 0 0]) (w1 := wl) (by first | (go_simp; done) | (go_simp; rfl)) ?_
                  exact hK.out _ wl hSl ⟨_, _, _, _, _, rfl, fun h0 n1 => (bit_abs ((on_net d 2 1 (by decide)).symm.trans n1) (after_of (j := 2) (k := 1) (by kernel_rfl) hd hjn hn)).elim, fun h1 => (frB (after_of (j := 2) (k := 1) (by kernel_rfl) hd hjn hn)), fun h2 => rfl, fun h3 => (fp ((on_ne d 2 3 (by decide)).symm.trans h3)), fun h4 => (fq ((on_ne d 2 4 (by decide)).symm.trans h4)), fun h3 h4 => (fne ((on_ne d 2 3 (by decide)).symm.trans h3) ((on_ne d 2 4 (by decide)).symm.trans h4))⟩
                · intro d hd hjn hn xs wl hx hSl ⟨x0, x1, x2, x3, x4, hxs, frA, frB, fbd, fp, fq, fne⟩ a' ha o ho K hK
                  subst hxs
                  obtain rfl := Option.some.inj (ho.symm.trans (rfl : _ = some _))
                  simp only [putVs, Act.put, List.setIfInBounds_toArray, List.set_cons_zero, List.set_cons_succ] at ha
                  subst ha
                  have hb1 : Below wl.heap.size wl (wl.alloc (.cells #[.bool false, .slice none 0 0, .slice none 0 0, .slice none 0 0] 25)) := below_alloc (Below.refl _ _) _
                  have hG : wl.grownBy (wl.alloc (.cells #[.bool false, .slice none 0 0, .slice none 0 0, .slice none 0 0] 25)) none := World.grownBy_alloc _ _ _
                  refine value_ rfl rfl (v := .pointer (some ⟨wl.heap.size, 0, none⟩)) (w1 := wl.alloc (.cells #[.bool false, .slice none 0 0, .slice none 0 0, .slice none 0 0] 25)) (by first | (go_simp; done) | (go_simp; rfl)) ?_
                  exact hK.out _ _ (hSl.trans (hb1.mono hSl.size)) ⟨_, _, _, _, _, rfl, fun h0 n1 => RowS.grown0 (frA ((on_ne d 3 0 (by decide)).symm.trans h0) ((on_net d 3 1 (by decide)).symm.trans n1)) hG, fun h1 => RowS.grown0 (frB ((on_ne d 3 1 (by decide)).symm.trans h1)) hG, fun h2 => (fbd ((on_ne d 3 2 (by decide)).symm.trans h2)), fun h3 => ⟨_, rfl, blk_new wl _, hSl.size⟩, fun h4 => BoxAt.grown0 (fq ((on_ne d 3 4 (by decide)).symm.trans h4)) hG, fun h3 h4 => pne_new (fq ((on_ne d 3 4 (by decide)).symm.trans h4))⟩
                · intro d hd hjn hn xs wl hx hSl ⟨x0, x1, x2, x3, x4, hxs, frA, frB, fbd, fp, fq, fne⟩ a' ha o ho K hK
                  subst hxs
                  obtain rfl := Option.some.inj (ho.symm.trans (rfl : _ = some _))
                  simp only [putVs, Act.put, List.setIfInBounds_toArray, List.set_cons_zero, List.set_cons_succ] at ha
                  subst ha
                  have hb1 : Below wl.heap.size wl (wl.alloc (.cells #[.bool false, .slice none 0 0, .slice none 0 0, .slice none 0 0] 25)) := below_alloc (Below.refl _ _) _
                  have hG : wl.grownBy (wl.alloc (.cells #[.bool false, .slice none 0 0, .slice none 0 0, .slice none 0 0] 25)) none := World.grownBy_alloc _ _ _
                  refine value_ rfl rfl (v := .pointer (some ⟨wl.heap.size, 0, none⟩)) (w1 := wl.alloc (.cells #[.bool false, .slice none 0 0, .slice none 0 0, .slice none 0 0] 25)) (by first | (go_simp; done) | (go_simp; rfl)) ?_
                  exact hK.out _ _ (hSl.trans (hb1.mono hSl.size)) ⟨_, _, _, _, _, rfl, fun h0 n1 => RowS.grown0 (frA ((on_ne d 4 0 (by decide)).symm.trans h0) ((on_net d 4 1 (by decide)).symm.trans n1)) hG, fun h1 => RowS.grown0 (frB ((on_ne d 4 1 (by decide)).symm.trans h1)) hG, fun h2 => (fbd ((on_ne d 4 2 (by decide)).symm.trans h2)), fun h3 => BoxAt.grown0 (fp ((on_ne d 4 3 (by decide)).symm.trans h3)) hG, fun h4 => ⟨_, rfl, blk_new wl _, hSl.size⟩, fun h3 h4 => (pne_new (fp ((on_ne d 4 3 (by decide)).symm.trans h3))).symm⟩
              case hfin =>
                intro xs wl hx hSl ⟨x0, x1, x2, x3, x4, hxs, frA, frB, fbd, fp, fq, fne⟩ a' ha
                subst hxs
                simp only [putVs, Act.put, List.setIfInBounds_toArray, List.set_cons_zero, List.set_cons_succ] at ha
                subst ha
                have grB := frB (by decide)
                have gbd := fbd (by decide)
                have gp := fp (by decide)
                have gq := fq (by decide)
                have gne := fne (by decide) (by decide)
                clear frA frB fbd fp fq fne
                obtain ⟨g9, rfl, hq9, hg9⟩ := gp
                obtain ⟨g10, rfl, hq10, hg10⟩ := gq
                have hn9 := pne_of gne
                obtain ⟨A4, d4, rfl⟩ := Kd.R_slice grB
                subst gbd
                have hHeld := hSl
                obtain ⟨i0, i1, i2, i3⟩ := cells_of hq9
                have j0 := frz_of hq9 0
                have j1 := frz_of hq9 1
                have j2 := frz_of hq9 2
                have j3 := frz_of hq9 3
                have hr10 := set4_ne hq10 (fun e => hn9 e.symm) (.bool true) (.slice A4 Kx.length d4) (.slice none 0 0) (.slice none 0 0)
                obtain ⟨k0, k1, k2, k3⟩ := cells_of hr10
                have l0 := frz_of hr10 0
                have l1 := frz_of hr10 1
                have l2 := frz_of hr10 2
                have l3 := frz_of hr10 3
                refine one_ (i := 14) (N := none) #[true, true, true, true, true, true, true, true, true, true, true, true, true, true, true, false] rfl rfl (by kernel_rfl) (by decide) (fun K hK => ?_)
                refine skip_ rfl rfl (w1 := set4 wl g9 (.bool true) (.slice A4 Kx.length d4) (.slice none 0 0) (.slice none 0 0)) (by first | (go_simp; done) | (go_simp; rfl)) ?_
                refine hK.out _ _ (set4_below hSl hg9 _ _ _ _) (fun hHeld => ?_)
                clear hK K 
                refine one_ (i := 15) (N := none) #[true, true, true, true, true, true, true, true, true, true, true, true, true, true, true, true] rfl rfl (by kernel_rfl) (by decide) (fun K hK => ?_)
                refine skip_ rfl rfl (w1 := set4 (set4 wl g9 (.bool true) (.slice A4 Kx.length d4) (.slice none 0 0) (.slice none 0 0)) g10 (.bool true) (.slice none 0 0) (.slice none 0 0) (.slice none 0 0)) (by first | (go_simp; done) | (go_simp; rfl)) ?_
                refine hK.out _ _ (set4_below (set4_below hSl hg9 _ _ _ _) hg10 _ _ _ _) (fun hHeld => ?_)
                clear hK K 
                refine done_ (by kernel_rfl) ?_
                have e9 := set4_ne (set4_blk hq9 (.bool true) (.slice A4 Kx.length d4) (.slice none 0 0) (.slice none 0 0)) hn9 (.bool true) (.slice none 0 0) (.slice none 0 0) (.slice none 0 0)
                have e10 := set4_blk hr10 (.bool true) (.slice none 0 0) (.slice none 0 0) (.slice none 0 0)
                have e4 := RowS.set4 (RowS.set4 grB hq9 (by decide) (.bool true) (.slice A4 Kx.length d4) (.slice none 0 0) (.slice none 0 0)) hr10 (by decide) (.bool true) (.slice none 0 0) (.slice none 0 0) (.slice none 0 0)
                have e5 := set4_below (set4_below hSl hg9 (.bool true) (.slice A4 Kx.length d4) (.slice none 0 0) (.slice none 0 0)) hg10 (.bool true) (.slice none 0 0) (.slice none 0 0) (.slice none 0 0)
                clear i0 i1 i2 i3 j0 j1 j2 j3 k0 k1 k2 k3 l0 l1 l2 l3 hHeld hq9 hq10 hr10 grB hSl hdr
                generalize set4 (set4 wl g9 (.bool true) (.slice A4 Kx.length d4) (.slice none 0 0) (.slice none 0 0)) g10 (.bool true) (.slice none 0 0) (.slice none 0 0) (.slice none 0 0) = w5 at e9 e10 e4 e5 ⊢
                have HG9 := Aside0.mk hg9
                have HG10 := Aside0.mk hg10
                have HN9 := Aside0.mk hn9
                have X4 := Aside0.mk e4
                have HS5 := Aside0.mk e5
                have HQ9 := Aside0.mk e9
                have HQ10 := Aside0.mk e10
                clear e4 e5 e9 e10 hg9 hg10 hn9
                obtain ⟨s0, s1, s2, s3⟩ := cells_of (blk_below HQ1c.out HS5.out)
                go_upto_region 11 with fail
                clear s0 s1 s2 s3
                have hdr : Below w5.heap.size w5 w5.drew := below_drew (Below.refl _ _)
                have HQ1e := Aside0.mk (blk_below HQ1c.out HS5.out)
                refine start_ (n := 9) (S := fun w' => Below w5.heap.size w5 w') (ds := [8]) #[false, false, false, false, false, false, false, false, false] (by kernel_rfl) rfl rfl hdr (fun hHeld => ?_)
                refine pure_ (i := 0) (N := some 55) (v := ?_) (a' := ?_) #[true, false, false, false, false, false, false, false, false] rfl rfl (by kernel_rfl) (fun _ _ _ h => h) (Or.inl ⟨by rfl, ?_⟩) ?_ ?_
                rotate_left
                · intro w'
                  go_simp
                  with_reducible rfl
                rotate_left
                · simp only [Act.put, List.setIfInBounds_toArray, List.set_cons_zero, List.set_cons_succ]
                  rfl
                refine pure_ (i := 2) (N := some 57) (v := ?_) (a' := ?_) #[true, false, true, false, false, false, false, false, false] rfl rfl (by kernel_rfl) (fun _ _ _ h => h) (Or.inl ⟨by rfl, ?_⟩) ?_ ?_
                rotate_left
                · intro w'
                  go_simp
                  with_reducible rfl
                rotate_left
                · simp only [Act.put, List.setIfInBounds_toArray, List.set_cons_zero, List.set_cons_succ]
                  rfl
                refine pure_ (i := 4) (N := some 59) (v := ?_) (a' := ?_) #[true, false, true, false, true, false, false, false, false] rfl rfl (by kernel_rfl) (fun _ _ _ h => h) (Or.inl ⟨by rfl, ?_⟩) ?_ ?_
                rotate_left
                · intro w'
                  go_simp
                  with_reducible rfl
                rotate_left
                · simp only [Act.put, List.setIfInBounds_toArray, List.set_cons_zero, List.set_cons_succ]
                  rfl
                refine take_ (i := 1) (N := some 56) (v := ?_) (a' := ?_) #[true, true, true, false, true, false, false, false, false] rfl rfl (by kernel_rfl) (fun _ _ _ h => h) (Or.inl ⟨by rfl, ?_⟩) hHeld ?_ ?_
                rotate_left
                · intro w' s0
                  have s1 := (cells_of (blk_below HQ9.out s0)).2.2.1
                  go_simp
                  with_reducible rfl
                rotate_left
                · simp only [Act.put, List.setIfInBounds_toArray, List.set_cons_zero, List.set_cons_succ]
                  rfl
                refine take_ (i := 3) (N := some 58) (v := ?_) (a' := ?_) #[true, true, true, true, true, false, false, false, false] rfl rfl (by kernel_rfl) (fun _ _ _ h => h) (Or.inl ⟨by rfl, ?_⟩) hHeld ?_ ?_
                rotate_left
                · intro w' s0
                  have s1 := (cells_of (blk_below HQ1e.out s0)).2.2.1
                  go_simp
                  with_reducible rfl
                rotate_left
                · simp only [Act.put, List.setIfInBounds_toArray, List.set_cons_zero, List.set_cons_succ]
                  rfl
                refine pure_ (i := 5) (N := some 60) (v := .slice a2 c c2) (a' := ?_) #[true, true, true, true, true, true, false, false, false] rfl rfl (by kernel_rfl) (fun _ _ _ h => h) (Or.inl ⟨by rfl, ?_⟩) ?_ ?_
                · intro w'
                  exact ex_hi (x := .tmp 58) (y := .tmp 59) und22 size9 rfl rfl rfl (by have := HCC.out; have := HTL.out; have := HN.out; omega)
                rotate_left
                · simp only [Act.put, List.setIfInBounds_toArray, List.set_cons_zero, List.set_cons_succ]
                  rfl
                refine one_ (i := 6) (N := some 61) #[true, true, true, true, true, true, true, false, false] rfl rfl (by kernel_rfl) (by decide) (fun K hK => ?_)
                refine Kd.R_append_rows_step Kd.string (w0 := w5) w5.heap.size (by rfl) (.tmp 56) (.tmp 60) 22 9 (.string ⟨#[]⟩) 16 rfl Try.underlying22 INF9.out rfl (by decide) (by decide) (.slice none 0 0) [] Vx a2 c c2 tt (fun _ => False) rfl rfl (Kd.R_nil _ _ _ _ _) (by rw [HVx.out]; exact takeC (((HCA.out _ ((HB3.out.trans (HS5.out.mono HB3.out.size)).trans (hHeld.mono (HB3.out.trans (HS5.out.mono HB3.out.size)).size))).2.1)) (by have := HCC.out; have := HTL.out; have := HN.out; omega)) (fun _ _ h => h) (fun _ h => h.elim) (fun _ _ => trivial) hHeld hHeld.size ?hl ?_
                case hl => have := HCC.out; have := HTL.out; have := HN.out; have := HL.out; simp; omega
                intro v6 w6 ho hb hG hat
                have X5 := Aside0.mk (show RowS Kd.string 9 w5.heap.size w6 v6 Vx from rowS_s ho)
                obtain ⟨A5, d5, e5⟩ := Kd.R_slice X5.out
                subst e5
                have hb6 := hb
                have hw6 := w6
                clear ho hG hat
                show K (Act.put _ (some 61) _) _
                simp only [Act.put, List.setIfInBounds_toArray, List.set_cons_zero, List.set_cons_succ]
                refine hK.out _ _ hb6 (fun hHeld => ?_)
                clear hK K hb6 hw6
                have hq := blk_below HQ9.out hHeld
                obtain ⟨i0, i1, i2, i3⟩ := cells_of hq
                have j0 := frz_of hq 0
                have j1 := frz_of hq 1
                have j2 := frz_of hq 2
                have j3 := frz_of hq 3
                refine pure_ (i := 7) (N := some 62) (v := ?_) (a' := ?_) #[true, true, true, true, true, true, true, true, false] rfl rfl (by kernel_rfl) (fun _ _ _ h => h) (Or.inl ⟨by rfl, ?_⟩) ?_ ?_
                rotate_left
                · intro w'
                  go_simp
                  with_reducible rfl
                rotate_left
                · simp only [Act.put, List.setIfInBounds_toArray, List.set_cons_zero, List.set_cons_succ]
                  rfl
                have hp2 := blk_put (cs' := #[.bool true, .slice A4 Kx.length d4, .slice A5 Vx.length d5, .slice none 0 0]) hq 2 (.slice A5 Vx.length d5) rfl
                refine last_ (i := 8) (N := none) #[true, true, true, true, true, true, true, true, true] rfl rfl (by kernel_rfl) (by decide) (fun K hK => ?_)
                refine skip_ rfl rfl (w1 := (w6).setCell ⟨g9, 2, none⟩ (.slice A5 Vx.length d5)) (by first | (go_simp; done) | (go_simp; rfl)) ?_
                refine hK.out _ _ ?_
                clear hK K
                refine done_ (by kernel_rfl) ?_
                have ho0 := blk_below HQ10.out hHeld
                have hs0 := HS5.out.trans (hHeld.mono HS5.out.size)
                have rX4 := RowS.below X4.out hHeld
                have rX5 := X5.out
                have ho0 := (Below.heap_setCell _ ⟨g9, 2, none⟩ (.slice A5 Vx.length d5) _ (fun e => HN9.out e.symm)).trans ho0
                have hs0 := hs0.setCell (p := ⟨g9, 2, none⟩) HG9.out (.slice A5 Vx.length d5)
                have rX4 := RowS.set1 (j := 2) rX4 hq (by decide) (.slice A5 Vx.length d5)
                have rX5 := RowS.set1 (j := 2) rX5 hq (by decide) (.slice A5 Vx.length d5)
                clear i0 i1 i2 i3 j0 j1 j2 j3
                generalize (w6).setCell ⟨g9, 2, none⟩ (.slice A5 Vx.length d5) = w7 at hp2 ho0 hs0 rX4 rX5 ⊢
                have X4 := Aside0.mk rX4
                have X5 := Aside0.mk rX5
                have HQ9 := Aside0.mk hp2
                have HQ10 := Aside0.mk ho0
                have Hw7 := Aside0.mk hs0
                clear hp2 ho0 hs0 hq hHeld hdr rX4 rX5
                go_upto_region 12 with fail
                have hdr : Below w7.heap.size w7 w7.drew := below_drew (Below.refl _ _)
                have HQ1e := Aside0.mk (blk_below HQ1c.out Hw7.out)
                refine start_ (n := 18) (S := fun w' => Below w7.heap.size w7 w') (ds := [15, 17]) #[false, false, false, false, false, false, false, false, false, false, false, false, false, false, false, false, false, false] (by kernel_rfl) rfl rfl hdr (fun hHeld => ?_)
                refine pure_ (i := 0) (N := some 63) (v := ?_) (a' := ?_) #[true, false, false, false, false, false, false, false, false, false, false, false, false, false, false, false, false, false] rfl rfl (by kernel_rfl) (fun _ _ _ h => h) (Or.inl ⟨by rfl, ?_⟩) ?_ ?_
                rotate_left
                · intro w'
                  go_simp
                  with_reducible rfl
                rotate_left
                · simp only [Act.put, List.setIfInBounds_toArray, List.set_cons_zero, List.set_cons_succ]
                  rfl
                refine pure_ (i := 2) (N := some 65) (v := ?_) (a' := ?_) #[true, false, true, false, false, false, false, false, false, false, false, false, false, false, false, false, false, false] rfl rfl (by kernel_rfl) (fun _ _ _ h => h) (Or.inl ⟨by rfl, ?_⟩) ?_ ?_
                rotate_left
                · intro w'
                  go_simp
                  with_reducible rfl
                rotate_left
                · simp only [Act.put, List.setIfInBounds_toArray, List.set_cons_zero, List.set_cons_succ]
                  rfl
                refine pure_ (i := 4) (N := some 67) (v := ?_) (a' := ?_) #[true, false, true, false, true, false, false, false, false, false, false, false, false, false, false, false, false, false] rfl rfl (by kernel_rfl) (fun _ _ _ h => h) (Or.inl ⟨by rfl, ?_⟩) ?_ ?_
                rotate_left
                · intro w'
                  go_simp
                  with_reducible rfl
                rotate_left
                · simp only [Act.put, List.setIfInBounds_toArray, List.set_cons_zero, List.set_cons_succ]
                  rfl
                refine pure_ (i := 7) (N := some 70) (v := ?_) (a' := ?_) #[true, false, true, false, true, false, false, true, false, false, false, false, false, false, false, false, false, false] rfl rfl (by kernel_rfl) (fun _ _ _ h => h) (Or.inl ⟨by rfl, ?_⟩) ?_ ?_
                rotate_left
                · intro w'
                  go_simp
                  with_reducible rfl
                rotate_left
                · simp only [Act.put, List.setIfInBounds_toArray, List.set_cons_zero, List.set_cons_succ]
                  rfl
                refine pure_ (i := 9) (N := some 72) (v := ?_) (a' := ?_) #[true, false, true, false, true, false, false, true, false, true, false, false, false, false, false, false, false, false] rfl rfl (by kernel_rfl) (fun _ _ _ h => h) (Or.inl ⟨by rfl, ?_⟩) ?_ ?_
                rotate_left
                · intro w'
                  go_simp
                  with_reducible rfl
                rotate_left
                · simp only [Act.put, List.setIfInBounds_toArray, List.set_cons_zero, List.set_cons_succ]
                  rfl
                refine pure_ (i := 11) (N := some 74) (v := ?_) (a' := ?_) #[true, false, true, false, true, false, false, true, false, true, false, true, false, false, false, false, false, false] rfl rfl (by kernel_rfl) (fun _ _ _ h => h) (Or.inl ⟨by rfl, ?_⟩) ?_ ?_
                rotate_left
                · intro w'
                  go_simp
                  with_reducible rfl
                rotate_left
                · simp only [Act.put, List.setIfInBounds_toArray, List.set_cons_zero, List.set_cons_succ]
                  rfl
                refine take_ (i := 1) (N := some 64) (v := ?_) (a' := ?_) #[true, true, true, false, true, false, false, true, false, true, false, true, false, false, false, false, false, false] rfl rfl (by kernel_rfl) (fun _ _ _ h => h) (Or.inl ⟨by rfl, ?_⟩) hHeld ?_ ?_
                rotate_left
                · intro w' s0
                  have s1 := (cells_of (blk_below HQ10.out s0)).2.1
                  go_simp
                  with_reducible rfl
                rotate_left
                · simp only [Act.put, List.setIfInBounds_toArray, List.set_cons_zero, List.set_cons_succ]
                  rfl
                refine take_ (i := 3) (N := some 66) (v := ?_) (a' := ?_) #[true, true, true, true, true, false, false, true, false, true, false, true, false, false, false, false, false, false] rfl rfl (by kernel_rfl) (fun _ _ _ h => h) (Or.inl ⟨by rfl, ?_⟩) hHeld ?_ ?_
                rotate_left
                · intro w' s0
                  have s1 := (cells_of (blk_below HQ1e.out s0)).2.1
                  go_simp
                  with_reducible rfl
                rotate_left
                · simp only [Act.put, List.setIfInBounds_toArray, List.set_cons_zero, List.set_cons_succ]
                  rfl
                refine take_ (i := 8) (N := some 71) (v := ?_) (a' := ?_) #[true, true, true, true, true, false, false, true, true, true, false, true, false, false, false, false, false, false] rfl rfl (by kernel_rfl) (fun _ _ _ h => h) (Or.inl ⟨by rfl, ?_⟩) hHeld ?_ ?_
                rotate_left
                · intro w' s0
                  have s1 := (cells_of (blk_below HQ10.out s0)).2.2.1
                  go_simp
                  with_reducible rfl
                rotate_left
                · simp only [Act.put, List.setIfInBounds_toArray, List.set_cons_zero, List.set_cons_succ]
                  rfl
                refine take_ (i := 10) (N := some 73) (v := ?_) (a' := ?_) #[true, true, true, true, true, false, false, true, true, true, true, true, false, false, false, false, false, false] rfl rfl (by kernel_rfl) (fun _ _ _ h => h) (Or.inl ⟨by rfl, ?_⟩) hHeld ?_ ?_
                rotate_left
                · intro w' s0
                  have s1 := (cells_of (blk_below HQ1e.out s0)).2.2.1
                  go_simp
                  with_reducible rfl
                rotate_left
                · simp only [Act.put, List.setIfInBounds_toArray, List.set_cons_zero, List.set_cons_succ]
                  rfl
                refine pure_ (i := 5) (N := some 68) (v := .slice AP (n1 - c) (c1 - c)) (a' := ?_) #[true, true, true, true, true, true, false, true, true, true, true, true, false, false, false, false, false, false] rfl rfl (by kernel_rfl) (fun _ _ _ h => h) (Or.inl ⟨by rfl, ?_⟩) ?_ ?_
                · intro w'
                  exact ex_lo (x := .tmp 66) (y := .tmp 67) und22 size9 rfl rfl rfl (by have := HCC.out; omega) HAP.out
                rotate_left
                · simp only [Act.put, List.setIfInBounds_toArray, List.set_cons_zero, List.set_cons_succ]
                  rfl
                refine pure_ (i := 12) (N := some 75) (v := .slice AQ (n2 - c) (c2 - c)) (a' := ?_) #[true, true, true, true, true, true, false, true, true, true, true, true, true, false, false, false, false, false] rfl rfl (by kernel_rfl) (fun _ _ _ h => h) (Or.inl ⟨by rfl, ?_⟩) ?_ ?_
                · intro w'
                  exact ex_lo (x := .tmp 73) (y := .tmp 74) und22 size9 rfl rfl rfl (by have := HCC.out; have := HTL.out; have := HN.out; omega) HAQ.out
                rotate_left
                · simp only [Act.put, List.setIfInBounds_toArray, List.set_cons_zero, List.set_cons_succ]
                  rfl
                refine one_ (i := 6) (N := some 69) #[true, true, true, true, true, true, true, true, true, true, true, true, true, false, false, false, false, false] rfl rfl (by kernel_rfl) (by decide) (fun K hK => ?_)
                refine Kd.R_append_rows_step Kd.string (w0 := w7) w7.heap.size (by rfl) (.tmp 64) (.tmp 68) 22 9 (.string ⟨#[]⟩) 16 rfl Try.underlying22 INF9.out rfl (by decide) (by decide) (.slice none 0 0) [] Ky AP (n1 - c) (c1 - c) tt (fun _ => False) rfl rfl (Kd.R_nil _ _ _ _ _) (by rw [HKy.out]; exact dropC (((HCA.out _ ((HB3.out.trans (Hw7.out.mono HB3.out.size)).trans (hHeld.mono (HB3.out.trans (Hw7.out.mono HB3.out.size)).size))).1)) (by have := HCC.out; omega) HCC.out.1 rfl HAP.out) (fun _ _ h => h) (fun _ h => h.elim) (fun _ _ => trivial) hHeld hHeld.size ?hl ?_
                case hl => have := HCC.out; have := HTL.out; have := HN.out; have := HL.out; simp; omega
                intro v6 w6 ho hb hG hat
                have X6 := Aside0.mk (show RowS Kd.string 9 w7.heap.size w6 v6 Ky from rowS_s ho)
                obtain ⟨A6, d6, e5⟩ := Kd.R_slice X6.out
                subst e5
                have hb6 := hb
                have hw6 := w6
                clear ho hG hat
                show K (Act.put _ (some 69) _) _
                simp only [Act.put, List.setIfInBounds_toArray, List.set_cons_zero, List.set_cons_succ]
                refine hK.out _ _ hb6 (fun hHeld => ?_)
                clear hK K hb6 hw6
                refine pure_ (i := 14) (N := some 77) (v := ?_) (a' := ?_) #[true, true, true, true, true, true, true, true, true, true, true, true, true, false, true, false, false, false] rfl rfl (by kernel_rfl) (fun _ _ _ h => h) (Or.inl ⟨by rfl, ?_⟩) ?_ ?_
                rotate_left
                · intro w'
                  go_simp
                  with_reducible rfl
                rotate_left
                · simp only [Act.put, List.setIfInBounds_toArray, List.set_cons_zero, List.set_cons_succ]
                  rfl
                refine one_ (i := 13) (N := some 76) #[true, true, true, true, true, true, true, true, true, true, true, true, true, true, true, false, false, false] rfl rfl (by kernel_rfl) (by decide) (fun K hK => ?_)
                refine Kd.R_append_rows_step Kd.string (w0 := w7) w7.heap.size (by rfl) (.tmp 71) (.tmp 75) 22 9 (.string ⟨#[]⟩) 16 rfl Try.underlying22 INF9.out rfl (by decide) (by decide) (.slice none 0 0) [] Vy AQ (n2 - c) (c2 - c) tt (fun _ => False) rfl rfl (Kd.R_nil _ _ _ _ _) (by rw [HVy.out]; exact dropC (((HCA.out _ ((HB3.out.trans (Hw7.out.mono HB3.out.size)).trans (hHeld.mono (HB3.out.trans (Hw7.out.mono HB3.out.size)).size))).2.1)) (by have := HCC.out; have := HTL.out; have := HN.out; omega) HCC.out.2.1 rfl HAQ.out) (fun _ _ h => h) (fun _ h => h.elim) (fun _ _ => trivial) hHeld hHeld.size ?hl ?_
                case hl => have := HCC.out; have := HTL.out; have := HN.out; have := HL.out; simp; omega
                intro v6 w6 ho hb hG hat
                have X7 := Aside0.mk (show RowS Kd.string 9 w7.heap.size w6 v6 Vy from rowS_s ho)
                obtain ⟨A7, d7, e5⟩ := Kd.R_slice X7.out
                subst e5
                have X6 := Aside0.mk (RowS.grown0 X6.out hG)
                have hb6 := hb
                have hw6 := w6
                clear ho hG hat
                show K (Act.put _ (some 76) _) _
                simp only [Act.put, List.setIfInBounds_toArray, List.set_cons_zero, List.set_cons_succ]
                refine hK.out _ _ hb6 (fun hHeld => ?_)
                clear hK K hb6 hw6
                have hq := blk_below HQ10.out hHeld
                obtain ⟨i0, i1, i2, i3⟩ := cells_of hq
                have j0 := frz_of hq 0
                have j1 := frz_of hq 1
                have j2 := frz_of hq 2
                have j3 := frz_of hq 3
                have hp1 := blk_put (cs' := #[.bool true, .slice A6 Ky.length d6, .slice none 0 0, .slice none 0 0]) hq 1 (.slice A6 Ky.length d6) rfl
                refine last_ (i := 15) (N := none) #[true, true, true, true, true, true, true, true, true, true, true, true, true, true, true, true, false, false] rfl rfl (by kernel_rfl) (by decide) (fun K hK => ?_)
                refine skip_ rfl rfl (w1 := (w6).setCell ⟨g10, 1, none⟩ (.slice A6 Ky.length d6)) (by first | (go_simp; done) | (go_simp; rfl)) ?_
                refine hK.out _ _ ?_
                clear hK K
                refine pure_ (i := 16) (N := some 78) (v := ?_) (a' := ?_) #[true, true, true, true, true, true, true, true, true, true, true, true, true, true, true, true, true, false] rfl rfl (by kernel_rfl) (fun _ _ _ h => h) (Or.inl ⟨by rfl, ?_⟩) ?_ ?_
                rotate_left
                · intro w'
                  go_simp
                  with_reducible rfl
                rotate_left
                · simp only [Act.put, List.setIfInBounds_toArray, List.set_cons_zero, List.set_cons_succ]
                  rfl
                obtain ⟨i0, i1, i2, i3⟩ := cells_of hp1
                have j0 := frz_of hp1 0
                have j1 := frz_of hp1 1
                have j2 := frz_of hp1 2
                have j3 := frz_of hp1 3
                have hp2 := blk_put (cs' := #[.bool true, .slice A6 Ky.length d6, .slice A7 Vy.length d7, .slice none 0 0]) hp1 2 (.slice A7 Vy.length d7) rfl
                refine last_ (i := 17) (N := none) #[true, true, true, true, true, true, true, true, true, true, true, true, true, true, true, true, true, true] rfl rfl (by kernel_rfl) (by decide) (fun K hK => ?_)
                refine skip_ rfl rfl (w1 := ((w6).setCell ⟨g10, 1, none⟩ (.slice A6 Ky.length d6)).setCell ⟨g10, 2, none⟩ (.slice A7 Vy.length d7)) (by first | (go_simp; done) | (go_simp; rfl)) ?_
                refine hK.out _ _ ?_
                clear hK K
                refine done_ (by kernel_rfl) ?_
                have ho0 := blk_below HQ9.out hHeld
                have hs0 := Hw7.out.trans (hHeld.mono Hw7.out.size)
                have rX4 := RowS.below X4.out hHeld
                have rX5 := RowS.below X5.out hHeld
                have rX6 := X6.out
                have rX7 := X7.out
                have ho0 := (Below.heap_setCell _ ⟨g10, 1, none⟩ (.slice A6 Ky.length d6) _ HN9.out).trans ho0
                have hs0 := hs0.setCell (p := ⟨g10, 1, none⟩) HG10.out (.slice A6 Ky.length d6)
                have rX4 := RowS.set1 (j := 1) rX4 hq (by decide) (.slice A6 Ky.length d6)
                have rX5 := RowS.set1 (j := 1) rX5 hq (by decide) (.slice A6 Ky.length d6)
                have rX6 := RowS.set1 (j := 1) rX6 hq (by decide) (.slice A6 Ky.length d6)
                have rX7 := RowS.set1 (j := 1) rX7 hq (by decide) (.slice A6 Ky.length d6)
                have ho0 := (Below.heap_setCell _ ⟨g10, 2, none⟩ (.slice A7 Vy.length d7) _ HN9.out).trans ho0
                have hs0 := hs0.setCell (p := ⟨g10, 2, none⟩) HG10.out (.slice A7 Vy.length d7)
                have rX4 := RowS.set1 (j := 2) rX4 hp1 (by decide) (.slice A7 Vy.length d7)
                have rX5 := RowS.set1 (j := 2) rX5 hp1 (by decide) (.slice A7 Vy.length d7)
                have rX6 := RowS.set1 (j := 2) rX6 hp1 (by decide) (.slice A7 Vy.length d7)
                have rX7 := RowS.set1 (j := 2) rX7 hp1 (by decide) (.slice A7 Vy.length d7)
                clear i0 i1 i2 i3 j0 j1 j2 j3
                generalize ((w6).setCell ⟨g10, 1, none⟩ (.slice A6 Ky.length d6)).setCell ⟨g10, 2, none⟩ (.slice A7 Vy.length d7) = w8 at hp2 ho0 hs0 rX4 rX5 rX6 rX7 ⊢
                have X4 := Aside0.mk rX4
                have X5 := Aside0.mk rX5
                have X6 := Aside0.mk rX6
                have X7 := Aside0.mk rX7
                have HQ10 := Aside0.mk hp2
                have HQ9 := Aside0.mk ho0
                have Hw8 := Aside0.mk hs0
                clear hp1 hp2 ho0 hs0 hq hHeld hdr rX4 rX5 rX6 rX7
                go_upto_region 15 with fail
                have hdr : Below w8.heap.size w8 w8.drew := below_drew (Below.refl _ _)
                have HB8 := Aside0.mk (HB3.out.trans (Hw8.out.mono HB3.out.size))
                have HQ1e := Aside0.mk (blk_below HQ1c.out Hw8.out)
                skip
                refine start_ (n := 11) (S := fun w' => Below W.heap.size W w' ∧ w'.heap[g1]? = some (.cells #[.bool true, .slice (some ad) n1 c1, .slice a2 n2 c2, .slice a3 n3 c3] 25 (0, 0)) ∧ w'.heap[g9]? = some (.cells #[.bool true, .slice A4 Kx.length d4, .slice A5 Vx.length d5, .slice none 0 0] 25 (0, 0)) ∧ w'.heap[g10]? = some (.cells #[.bool true, .slice A6 Ky.length d6, .slice A7 Vy.length d7, .slice none 0 0] 25 (0, 0))) (ds := []) #[false, false, false, false, false, false, false, false, false, false, false] (by kernel_rfl) rfl rfl ⟨HB8.out.trans (hdr.mono HB8.out.size), blk_below HQ1e.out hdr, blk_below HQ9.out hdr, blk_below HQ10.out hdr⟩ (fun hHeld => ?_)
                generalize w8.drew = w9 at hdr hHeld ⊢
                have HQ2e := Aside0.mk (blk_below (blk_below HQ2c.out Hw8.out) hdr)
                have HQ4e := Aside0.mk (blk_below (blk_below HQ4c.out Hw8.out) hdr)
                have HLT := Aside0.mk (show (g9 ≠ g2 ∧ g9 ≠ g4) ∧ (g10 ≠ g2 ∧ g10 ≠ g4) by have h1 := HG9.out; have h2 := HG10.out; have h3 := (Array.getElem?_eq_some_iff.1 HQ2c.out).1; have h4 := (Array.getElem?_eq_some_iff.1 HQ4c.out).1; omega)
                refine pure_ (i := 1) (N := some 107) (v := ?_) (a' := ?_) #[false, true, false, false, false, false, false, false, false, false, false] rfl rfl (by kernel_rfl) (fun _ _ _ h => h) (Or.inl ⟨by rfl, ?_⟩) ?_ ?_
                rotate_left
                · intro w'
                  go_simp
                  with_reducible rfl
                rotate_left
                · simp only [Act.put, List.setIfInBounds_toArray, List.set_cons_zero, List.set_cons_succ]
                  rfl
                refine pure_ (i := 3) (N := some 109) (v := ?_) (a' := ?_) #[false, true, false, true, false, false, false, false, false, false, false] rfl rfl (by kernel_rfl) (fun _ _ _ h => h) (Or.inl ⟨by rfl, ?_⟩) ?_ ?_
                rotate_left
                · intro w'
                  go_simp
                  with_reducible rfl
                rotate_left
                · simp only [Act.put, List.setIfInBounds_toArray, List.set_cons_zero, List.set_cons_succ]
                  rfl
                refine take_ (i := 0) (N := some 106) (v := ?_) (a' := ?_) #[true, true, false, true, false, false, false, false, false, false, false] rfl rfl (by kernel_rfl) (fun _ _ _ h => h) (Or.inl ⟨by rfl, ?_⟩) hHeld ?_ ?_
                rotate_left
                · intro w' s0
                  obtain ⟨z0, z1, z2, z3⟩ := cells_of s0.2.2.1
                  go_simp
                  with_reducible rfl
                rotate_left
                · simp only [Act.put, List.setIfInBounds_toArray, List.set_cons_zero, List.set_cons_succ]
                  rfl
                refine take_ (i := 2) (N := some 108) (v := ?_) (a' := ?_) #[true, true, true, true, false, false, false, false, false, false, false] rfl rfl (by kernel_rfl) (fun _ _ _ h => h) (Or.inl ⟨by rfl, ?_⟩) hHeld ?_ ?_
                rotate_left
                · intro w' s0
                  have s1 := (cells_of s0.2.1).2.1
                  go_simp
                  with_reducible rfl
                rotate_left
                · simp only [Act.put, List.setIfInBounds_toArray, List.set_cons_zero, List.set_cons_succ]
                  rfl
                refine take_ (i := 6) (N := some 112) (v := ?_) (a' := ?_) #[true, true, true, true, false, false, true, false, false, false, false] rfl rfl (by kernel_rfl) (fun _ _ _ h => h) (Or.inl ⟨by rfl, ?_⟩) hHeld ?_ ?_
                rotate_left
                · intro w' s0
                  obtain ⟨z0, z1, z2, z3⟩ := cells_of s0.2.2.2
                  go_simp
                  with_reducible rfl
                rotate_left
                · simp only [Act.put, List.setIfInBounds_toArray, List.set_cons_zero, List.set_cons_succ]
                  rfl
                refine pure_ (i := 4) (N := some 110) (v := ?_) (a' := ?_) #[true, true, true, true, true, false, true, false, false, false, false] rfl rfl (by kernel_rfl) (fun _ _ _ h => h) (Or.inl ⟨by rfl, ?_⟩) ?_ ?_
                rotate_left
                · intro w'
                  go_simp
                  with_reducible rfl
                rotate_left
                · simp only [Act.put, List.setIfInBounds_toArray, List.set_cons_zero, List.set_cons_succ]
                  rfl
                refine take_ (i := 5) (N := some 111) (v := ?_) (a' := ?_) #[true, true, true, true, true, true, true, false, false, false, false] rfl rfl (by kernel_rfl) (fun _ _ _ h => h) (Or.inl ⟨by rfl, ?_⟩) hHeld ?_ ?_
                rotate_left
                · intro w' s0
                  have s1 := HST.out w' s0.1
                  go_simp
                  with_reducible rfl
                rotate_left
                · simp only [Act.put, List.setIfInBounds_toArray, List.set_cons_zero, List.set_cons_succ]
                  rfl
                have hq2 := HQ2e.out
                have hq4 := HQ4e.out
                obtain ⟨y0, y1, y2, y3⟩ := cells_of hq2
                have f0 := frz_of hq2 0
                have f1 := frz_of hq2 1
                have f2 := frz_of hq2 2
                have f3 := frz_of hq2 3
                refine one_ (i := 7) (N := none) #[true, true, true, true, true, true, true, true, false, false, false] rfl rfl (by kernel_rfl) (by decide) (fun K hK => ?_)
                refine skip_ rfl rfl (w1 := set4 w9 g2 (.bool true) (.slice A4 Kx.length d4) (.slice A5 Vx.length d5) (.slice none 0 0)) (by first | (go_simp; done) | (go_simp; rfl)) ?_
                refine hK.out _ _ ⟨set4_below hHeld.1 HG2.out _ _ _ _, set4_ne hHeld.2.1 HN1.out.1 _ _ _ _, set4_ne hHeld.2.2.1 HLT.out.1.1 _ _ _ _, set4_ne hHeld.2.2.2 HLT.out.2.1 _ _ _ _⟩ (fun hHeld => ?_)
                clear hK K 
                refine pure_ (i := 8) (N := some 3) (v := ?_) (a' := ?_) #[true, true, true, true, true, true, true, true, true, false, false] rfl rfl (by kernel_rfl) (fun _ _ _ h => h) (Or.inl ⟨by rfl, ?_⟩) ?_ ?_
                rotate_left
                · intro w'
                  go_simp
                  with_reducible rfl
                rotate_left
                · simp only [Act.put, List.setIfInBounds_toArray, List.set_cons_zero, List.set_cons_succ]
                  rfl
                have hA4 := set4_ne hq4 HNE.out (.bool true) (.slice A4 Kx.length d4) (.slice A5 Vx.length d5) (.slice none 0 0)
                obtain ⟨l0, l1, l2, l3⟩ := cells_of hA4
                have r0 := frz_of hA4 0
                have r1 := frz_of hA4 1
                have r2 := frz_of hA4 2
                have r3 := frz_of hA4 3
                refine one_ (i := 9) (N := none) #[true, true, true, true, true, true, true, true, true, true, false] rfl rfl (by kernel_rfl) (by decide) (fun K hK => ?_)
                refine skip_ rfl rfl (w1 := set4 (set4 w9 g2 (.bool true) (.slice A4 Kx.length d4) (.slice A5 Vx.length d5) (.slice none 0 0)) g4 (.bool true) (.slice A6 Ky.length d6) (.slice A7 Vy.length d7) (.slice none 0 0)) (by first | (go_simp; done) | (go_simp; rfl)) ?_
                refine hK.out _ _ ⟨set4_below hHeld.1 HG4.out _ _ _ _, set4_ne hHeld.2.1 HN1.out.2 _ _ _ _, set4_ne hHeld.2.2.1 HLT.out.1.2 _ _ _ _, set4_ne hHeld.2.2.2 HLT.out.2.2 _ _ _ _⟩ (fun hHeld => ?_)
                clear hK K 
                refine pure_ (i := 10) (N := some 5) (v := ?_) (a' := ?_) #[true, true, true, true, true, true, true, true, true, true, true] rfl rfl (by kernel_rfl) (fun _ _ _ h => h) (Or.inl ⟨by rfl, ?_⟩) ?_ ?_
                rotate_left
                · intro w'
                  go_simp
                  with_reducible rfl
                rotate_left
                · simp only [Act.put, List.setIfInBounds_toArray, List.set_cons_zero, List.set_cons_succ]
                  rfl
                refine done_ (by kernel_rfl) ?_
                have hm : m = true := HM.out.2 ⟨HR.out.1 (by first | rfl | trivial), by rw [← HNN.out]; omega, by rw [← HN.out.1]; unfold keepN; simp; omega⟩
                have hA2 := set4_ne (set4_blk hq2 (.bool true) (.slice A4 Kx.length d4) (.slice A5 Vx.length d5) (.slice none 0 0)) hne' (.bool true) (.slice A6 Ky.length d6) (.slice A7 Vy.length d7) (.slice none 0 0)
                have hA5 := set4_blk hA4 (.bool true) (.slice A6 Ky.length d6) (.slice A7 Vy.length d7) (.slice none 0 0)
                have hl5 := (HB3.out.trans (HS5.out.mono HB3.out.size)).size
                have hl7 := (HB3.out.trans (Hw7.out.mono HB3.out.size)).size
                have e4 := ((RowS.below X4.out hdr).set4 hq2 (by decide) (.bool true) (.slice A4 Kx.length d4) (.slice A5 Vx.length d5) (.slice none 0 0)).set4 hA4 (by decide) (.bool true) (.slice A6 Ky.length d6) (.slice A7 Vy.length d7) (.slice none 0 0)
                have e5 := ((RowS.below X5.out hdr).set4 hq2 (by decide) (.bool true) (.slice A4 Kx.length d4) (.slice A5 Vx.length d5) (.slice none 0 0)).set4 hA4 (by decide) (.bool true) (.slice A6 Ky.length d6) (.slice A7 Vy.length d7) (.slice none 0 0)
                have e6 := ((RowS.below X6.out hdr).set4 hq2 (by decide) (.bool true) (.slice A4 Kx.length d4) (.slice A5 Vx.length d5) (.slice none 0 0)).set4 hA4 (by decide) (.bool true) (.slice A6 Ky.length d6) (.slice A7 Vy.length d7) (.slice none 0 0)
                have e7 := ((RowS.below X7.out hdr).set4 hq2 (by decide) (.bool true) (.slice A4 Kx.length d4) (.slice A5 Vx.length d5) (.slice none 0 0)).set4 hA4 (by decide) (.bool true) (.slice A6 Ky.length d6) (.slice A7 Vy.length d7) (.slice none 0 0)
                have hbd := HB8.out.trans (hdr.mono HB8.out.size)
                go_wp2
                refine bodyPost_ret (results_list (rs := [.cell 2 25, .tmp 3, .cell 4 25, .tmp 5]) rfl (by simp) (.cell g2 25 _ (0, 0) _ rfl hA2 Try.underlying25 rfl (by kernel_rfl) (.tmp (.cell g4 25 _ (0, 0) _ rfl hA5 Try.underlying25 rfl (by kernel_rfl) (.tmp .nil))))) rfl ?_
                refine ⟨_, rfl, .inr ⟨hm, c, ⟨A4, d4, A5, d5, none, 0⟩, ⟨A6, d6, A7, d7, none, 0⟩, ?_, ?_, ?_, ?_⟩, set4_below (set4_below hbd HG2.out _ _ _ _) HG4.out _ _ _ _⟩
                · have h := HCU.out
                  rw [HM0.out.1, HN.out.1] at h
                  exact h
                · show _ = Value.tuple #[.agg #[.bool true, .slice A4 (K.take c).length d4, .slice A5 (V.take c).length d5, .slice none 0 0], .string (K.getD c ByteArray.empty), .agg #[.bool true, .slice A6 (K.drop c).length d6, .slice A7 (V.drop c).length d7, .slice none 0 0], .bool true]
                  rw [← HKx.out, ← HVx.out, ← HKy.out, ← HVy.out, ← HKC.out]
                  rfl
                · exact ⟨(by show RowR Kd.string 9 W.heap.size _ (.slice A4 (K.take c).length d4) (K.take c); rw [← HKx.out]; exact Kd.R_lower (RowS.tt e4) (Nat.le_trans HB3.out.size (Nat.le_refl _))), (by show RowR Kd.string 9 W.heap.size _ (.slice A5 (V.take c).length d5) (V.take c); rw [← HVx.out]; exact Kd.R_lower (RowS.tt e5) hl5), Kd.R_nil _ _ _ _ _⟩
                · exact ⟨(by show RowR Kd.string 9 W.heap.size _ (.slice A6 (K.drop c).length d6) (K.drop c); rw [← HKy.out]; exact Kd.R_lower (RowS.tt e6) hl7), (by show RowR Kd.string 9 W.heap.size _ (.slice A7 (V.drop c).length d7) (V.drop c); rw [← HVy.out]; exact Kd.R_lower (RowS.tt e7) hl7), Kd.R_nil _ _ _ _ _⟩
end Go.Proofs.Ytbpnkgaomobpkaa.Mrg
