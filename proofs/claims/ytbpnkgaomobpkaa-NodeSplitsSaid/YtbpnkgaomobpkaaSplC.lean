/- node.Split, walked by hand (written by mksplc.py). -/
import Derived.Test.YtbpnkgaomobpkaaSplB
namespace Go.Proofs.Ytbpnkgaomobpkaa.Mrg
open Go.RowKit Go.Proofs.Ytbpnkgaomobpkaa.PNxu Go.Proofs.YtbpnkgaomobpkaaW.PrintWords Go.Proofs.YtbpnkgaomobpkaaW.PrintLast Go.Proofs.YtbpnkgaomobpkaaW.PrintMore Go.Proofs.Ytbpnkgaomobpkaa.Pure
set_option linter.unusedVariables false
set_option linter.unusedSimpArgs false
set_option maxHeartbeats 8000000 in
set_option maxRecDepth 100000 in
theorem node_split (W : World) (p1 : At) (b : Bool) (K V : List ByteArray) (D : List Int) (h1 : Bk W p1 b K V D) (l1 : K.length ≤ 300 ∧ V.length ≤ 300 ∧ D.length ≤ 300) (m : Bool) (hm : m = true ↔ SplitP b K V D) :
    Calls Try.prog 17 #[.agg #[.bool b, .slice p1.a1 K.length p1.c1, .slice p1.a2 V.length p1.c2, .slice p1.a3 D.length p1.c3]] W fun e w' => ∃ v, e = .returned v ∧ SplR W.heap.size w' v m b K V D ∧ Below W.heap.size W w' := by
  obtain ⟨r1, hr1⟩ := is_bool (CanP b K V D)
  have HC1 := Aside0.mk (fun (w : World) (hB : Below W.heap.size W w) => ncan_c (h1.below hB) ⟨by omega, by omega, by omega⟩ r1 hr1)
  have HM := Aside0.mk hm
  have HR := Aside0.mk hr1
  have HL := Aside0.mk l1
  have HK1 := Aside0.mk h1
  clear hm hr1 l1 h1
  obtain ⟨a1, c1, a2, c2, a3, c3⟩ := p1
  dsimp only at HC1 ⊢
  obtain ⟨n1, hn1⟩ : ∃ n, n = K.length := ⟨_, rfl⟩
  obtain ⟨n2, hn2⟩ : ∃ n, n = V.length := ⟨_, rfl⟩
  obtain ⟨n3, hn3⟩ : ∃ n, n = D.length := ⟨_, rfl⟩
  rw [← hn1, ← hn2, ← hn3] at HC1
  rw [← hn1, ← hn2, ← hn3]
  have HN := Aside0.mk (And.intro hn1 (And.intro hn2 hn3))
  clear hn1 hn2 hn3
  go_enter Try.func17, Try.ntmps17
  go_upto_region 1 with fail
  obtain ⟨w0, hw0⟩ : ∃ w0, w0 = ((W.alloc (.cells #[.bool b, .slice a1 n1 c1, .slice a2 n2 c2, .slice a3 n3 c3] 25)).alloc (.cells #[.bool false, .slice none 0 0, .slice none 0 0, .slice none 0 0] 25)).alloc (.cells #[.bool false, .slice none 0 0, .slice none 0 0, .slice none 0 0] 25) := ⟨_, rfl⟩
  have hbx := boxes3 W (.cells #[.bool b, .slice a1 n1 c1, .slice a2 n2 c2, .slice a3 n3 c3] 25) (.cells #[.bool false, .slice none 0 0, .slice none 0 0, .slice none 0 0] 25) (.cells #[.bool false, .slice none 0 0, .slice none 0 0, .slice none 0 0] 25)
  rw [← hw0] at hbx ⊢
  clear hw0
  obtain ⟨g1, hg1⟩ : ∃ g, g = W.heap.size := ⟨_, rfl⟩
  rw [← hg1] at hbx ⊢
  obtain ⟨g2, hg2⟩ : ∃ g, g = g1 + 1 := ⟨_, rfl⟩
  rw [← hg2] at hbx ⊢
  obtain ⟨g4, hg4⟩ : ∃ g, g = g2 + 1 := ⟨_, rfl⟩
  rw [← hg4] at hbx ⊢
  obtain ⟨q1, q2, q4, hB0, hsz⟩ := hbx
  rw [hg1] at hB0
  obtain ⟨x0, x1, x2, x3⟩ := cells_of q1
  have HQ1 := Aside0.mk q1
  have HQ2 := Aside0.mk q2
  have HQ4 := Aside0.mk q4
  have HB0 := Aside0.mk hB0
  have HG2 := Aside0.mk (show W.heap.size ≤ g2 by omega)
  have HG4 := Aside0.mk (show W.heap.size ≤ g4 by omega)
  have hne : ¬ g4 = g2 := by omega
  have hne' : ¬ g2 = g4 := by omega
  have HNE := Aside0.mk hne
  have HN1 := Aside0.mk (show g1 ≠ g2 ∧ g1 ≠ g4 by omega)
  clear q1 q2 q4 hB0 hsz hg1 hg2 hg4
  cases b with
  | false =>
    cases r1 with
    | false =>
      go_wp2_with (go_at_call 35; refine (HC1.out w0 HB0.out).mono ?_; rintro e w1 ⟨rfl, h1⟩; have HB1 := Aside0.mk (HB0.out.trans (h1.mono HB0.out.size)); have hq1 := blk_below HQ1.out h1; have hq2 := blk_below HQ2.out h1; have hq4 := blk_below HQ4.out h1; obtain ⟨z0, z1, z2, z3⟩ := cells_of hq1; obtain ⟨y0, y1, y2, y3⟩ := cells_of hq2; have f0 := frz_of hq2 0; have f1 := frz_of hq2 1; have f2 := frz_of hq2 2; have f3 := frz_of hq2 3; obtain ⟨v0, v1, v2, v3⟩ := cells_of hq4; have u0 := frz_of hq4 0; have u1 := frz_of hq4 1; have u2 := frz_of hq4 2; have u3 := frz_of hq4 3; have HQ1a := Aside0.mk hq1; have HQ2a := Aside0.mk hq2; have HQ4a := Aside0.mk hq4; clear h1 hq1 hq2 hq4)
      have hm : m = false := by
        cases m with
        | false => rfl
        | true => exact absurd (HR.out.2 (HM.out.1 rfl).1) (by decide)
      have hA := set4_ne (set4_blk HQ2a.out (.bool false) (.slice none 0 0) (.slice none 0 0) (.slice none 0 0)) hne' (.bool false) (.slice none 0 0) (.slice none 0 0) (.slice none 0 0)
      have hA4 := set4_blk (set4_ne HQ4a.out hne (.bool false) (.slice none 0 0) (.slice none 0 0) (.slice none 0 0)) (.bool false) (.slice none 0 0) (.slice none 0 0) (.slice none 0 0)
      refine bodyPost_ret (results_list (rs := [.cell 2 25, .tmp 3, .cell 4 25, .tmp 5]) rfl (by simp) (.cell g2 25 #[.bool false, .slice none 0 0, .slice none 0 0, .slice none 0 0] (0, 0) _ rfl hA Try.underlying25 rfl (by kernel_rfl) (.tmp (.cell g4 25 #[.bool false, .slice none 0 0, .slice none 0 0, .slice none 0 0] (0, 0) _ rfl hA4 Try.underlying25 rfl (by kernel_rfl) (.tmp .nil))))) rfl ?_
      exact ⟨_, rfl, .inl ⟨hm, rfl⟩, set4_below (set4_below HB1.out HG2.out _ _ _ _) HG4.out _ _ _ _⟩
    | true =>
      have HSM := Aside0.mk (small_can (HR.out.1 rfl) (by have := HL.out; omega) (by have := HL.out; omega))
      obtain ⟨N, hN⟩ : ∃ N, N = needTo false K V K.length := ⟨_, rfl⟩
      have hnd := fun (w : World) (hB : Below W.heap.size W w) => nneed_c (HK1.out.below hB) HSM.out.1 HSM.out.2.1 K.length (Nat.le_refl _) HSM.out.2.2
      rw [← hN, ← HN.out.1, ← HN.out.2.1, ← HN.out.2.2] at hnd
      dsimp only at hnd
      have HND := Aside0.mk hnd
      have HNN := Aside0.mk hN
      clear hnd hN
      by_cases hlim : N ≤ 509
      · have e1 : decide (N ≤ 509) = true := decide_eq_true hlim
        go_wp2_with (first
          | (go_at_call 36; refine (HND.out w1 HB1.out).mono ?_; rintro e w2 ⟨rfl, h1⟩; have HB2 := Aside0.mk (HB1.out.trans (h1.mono HB1.out.size)); have hq1 := blk_below HQ1a.out h1; have hq2 := blk_below HQ2a.out h1; have hq4 := blk_below HQ4a.out h1; obtain ⟨t0, t1, t2, t3⟩ := cells_of hq1; obtain ⟨y0, y1, y2, y3⟩ := cells_of hq2; have f0 := frz_of hq2 0; have f1 := frz_of hq2 1; have f2 := frz_of hq2 2; have f3 := frz_of hq2 3; obtain ⟨v0, v1, v2, v3⟩ := cells_of hq4; have u0 := frz_of hq4 0; have u1 := frz_of hq4 1; have u2 := frz_of hq4 2; have u3 := frz_of hq4 3; have HQ1b := Aside0.mk hq1; have HQ2b := Aside0.mk hq2; have HQ4b := Aside0.mk hq4; clear h1 hq1 hq2 hq4)
          | (go_at_call 35; refine (HC1.out w0 HB0.out).mono ?_; rintro e w1 ⟨rfl, h1⟩; have HB1 := Aside0.mk (HB0.out.trans (h1.mono HB0.out.size)); have hq1 := blk_below HQ1.out h1; have hq2 := blk_below HQ2.out h1; have hq4 := blk_below HQ4.out h1; obtain ⟨z0, z1, z2, z3⟩ := cells_of hq1;  have HQ1a := Aside0.mk hq1; have HQ2a := Aside0.mk hq2; have HQ4a := Aside0.mk hq4; clear h1 hq1 hq2 hq4))
        have hm : m = false := by
          cases m with
          | false => rfl
          | true => exact absurd (by have h := (HM.out.1 rfl).2.1; rw [← HNN.out] at h; omega : false = true) (by decide)
        have hA := set4_ne (set4_blk HQ2b.out (.bool false) (.slice none 0 0) (.slice none 0 0) (.slice none 0 0)) hne' (.bool false) (.slice none 0 0) (.slice none 0 0) (.slice none 0 0)
        have hA4 := set4_blk (set4_ne HQ4b.out hne (.bool false) (.slice none 0 0) (.slice none 0 0) (.slice none 0 0)) (.bool false) (.slice none 0 0) (.slice none 0 0) (.slice none 0 0)
        refine bodyPost_ret (results_list (rs := [.cell 2 25, .tmp 3, .cell 4 25, .tmp 5]) rfl (by simp) (.cell g2 25 #[.bool false, .slice none 0 0, .slice none 0 0, .slice none 0 0] (0, 0) _ rfl hA Try.underlying25 rfl (by kernel_rfl) (.tmp (.cell g4 25 #[.bool false, .slice none 0 0, .slice none 0 0, .slice none 0 0] (0, 0) _ rfl hA4 Try.underlying25 rfl (by kernel_rfl) (.tmp .nil))))) rfl ?_
        exact ⟨_, rfl, .inl ⟨hm, rfl⟩, set4_below (set4_below HB2.out HG2.out _ _ _ _) HG4.out _ _ _ _⟩
      · have e1 : decide (N ≤ 509) = false := decide_eq_false hlim
        by_cases hk : n1 ≤ 2
        · have e2 : decide ((n1 : Int) ≤ 2) = true := decide_eq_true (by omega)
          go_wp2_with (first
            | (go_at_call 36; refine (HND.out w1 HB1.out).mono ?_; rintro e w2 ⟨rfl, h1⟩; have HB2 := Aside0.mk (HB1.out.trans (h1.mono HB1.out.size)); have hq1 := blk_below HQ1a.out h1; have hq2 := blk_below HQ2a.out h1; have hq4 := blk_below HQ4a.out h1; obtain ⟨t0, t1, t2, t3⟩ := cells_of hq1; obtain ⟨y0, y1, y2, y3⟩ := cells_of hq2; have f0 := frz_of hq2 0; have f1 := frz_of hq2 1; have f2 := frz_of hq2 2; have f3 := frz_of hq2 3; obtain ⟨v0, v1, v2, v3⟩ := cells_of hq4; have u0 := frz_of hq4 0; have u1 := frz_of hq4 1; have u2 := frz_of hq4 2; have u3 := frz_of hq4 3; have HQ1b := Aside0.mk hq1; have HQ2b := Aside0.mk hq2; have HQ4b := Aside0.mk hq4; clear h1 hq1 hq2 hq4)
            | (go_at_call 35; refine (HC1.out w0 HB0.out).mono ?_; rintro e w1 ⟨rfl, h1⟩; have HB1 := Aside0.mk (HB0.out.trans (h1.mono HB0.out.size)); have hq1 := blk_below HQ1.out h1; have hq2 := blk_below HQ2.out h1; have hq4 := blk_below HQ4.out h1; obtain ⟨z0, z1, z2, z3⟩ := cells_of hq1;  have HQ1a := Aside0.mk hq1; have HQ2a := Aside0.mk hq2; have HQ4a := Aside0.mk hq4; clear h1 hq1 hq2 hq4))
          have hm : m = false := by
            cases m with
            | false => rfl
            | true => exact absurd (by have h := (HM.out.1 rfl).2.2; rw [← HN.out.1] at h; unfold keepN at h; simp at h; omega : false = true) (by decide)
          have hA := set4_ne (set4_blk HQ2b.out (.bool false) (.slice none 0 0) (.slice none 0 0) (.slice none 0 0)) hne' (.bool false) (.slice none 0 0) (.slice none 0 0) (.slice none 0 0)
          have hA4 := set4_blk (set4_ne HQ4b.out hne (.bool false) (.slice none 0 0) (.slice none 0 0) (.slice none 0 0)) (.bool false) (.slice none 0 0) (.slice none 0 0) (.slice none 0 0)
          refine bodyPost_ret (results_list (rs := [.cell 2 25, .tmp 3, .cell 4 25, .tmp 5]) rfl (by simp) (.cell g2 25 #[.bool false, .slice none 0 0, .slice none 0 0, .slice none 0 0] (0, 0) _ rfl hA Try.underlying25 rfl (by kernel_rfl) (.tmp (.cell g4 25 #[.bool false, .slice none 0 0, .slice none 0 0, .slice none 0 0] (0, 0) _ rfl hA4 Try.underlying25 rfl (by kernel_rfl) (.tmp .nil))))) rfl ?_
          exact ⟨_, rfl, .inl ⟨hm, rfl⟩, set4_below (set4_below HB2.out HG2.out _ _ _ _) HG4.out _ _ _ _⟩
        · have e2 : decide ((n1 : Int) ≤ 2) = false := decide_eq_false (by omega)
          obtain ⟨m0, hm0⟩ : ∃ m0 : Nat, m0 = n1 - 2 := ⟨_, rfl⟩
          have em0 : wrap64 ((n1 : Int) - 2) = (m0 : Int) := (wrap_in (by have := HL.out; have := HN.out; omega) (by have := HL.out; have := HN.out; omega)).trans (by omega)
          have hsr := fun (w : World) (hB : Below W.heap.size W w) (hq : w.heap[g1]? = some (.cells #[.bool false, .slice a1 K.length c1, .slice a2 V.length c2, .slice a3 D.length c3] 25 (0, 0))) => search_c w g1 ⟨a1, c1, a2, c2, a3, c3⟩ false K V D hq (HK1.out.below hB) HSM.out.1 HSM.out.2.1 m0 (by rw [← HN.out.1]; omega) (fun e => by have := HSM.out.2.2 e; rw [← HN.out.1] at this; omega)
          rw [← em0, ← HN.out.1, ← HN.out.2.1, ← HN.out.2.2] at hsr
          have HSR := Aside0.mk hsr
          have HM0 := Aside0.mk (And.intro hm0 em0)
          clear hsr em0 hm0
          go_upto_region 7 with (first
            | (go_at_call 36; refine (HND.out w1 HB1.out).mono ?_; rintro e w2 ⟨rfl, h1⟩; have HB2 := Aside0.mk (HB1.out.trans (h1.mono HB1.out.size)); have hq1 := blk_below HQ1a.out h1; have hq2 := blk_below HQ2a.out h1; have hq4 := blk_below HQ4a.out h1; obtain ⟨t0, t1, t2, t3⟩ := cells_of hq1; obtain ⟨y0, y1, y2, y3⟩ := cells_of hq2; have f0 := frz_of hq2 0; have f1 := frz_of hq2 1; have f2 := frz_of hq2 2; have f3 := frz_of hq2 3; obtain ⟨v0, v1, v2, v3⟩ := cells_of hq4; have u0 := frz_of hq4 0; have u1 := frz_of hq4 1; have u2 := frz_of hq4 2; have u3 := frz_of hq4 3; have HQ1b := Aside0.mk hq1; have HQ2b := Aside0.mk hq2; have HQ4b := Aside0.mk hq4; clear h1 hq1 hq2 hq4)
            | (go_at_call 35; refine (HC1.out w0 HB0.out).mono ?_; rintro e w1 ⟨rfl, h1⟩; have HB1 := Aside0.mk (HB0.out.trans (h1.mono HB0.out.size)); have hq1 := blk_below HQ1.out h1; have hq2 := blk_below HQ2.out h1; have hq4 := blk_below HQ4.out h1; obtain ⟨z0, z1, z2, z3⟩ := cells_of hq1;  have HQ1a := Aside0.mk hq1; have HQ2a := Aside0.mk hq2; have HQ4a := Aside0.mk hq4; clear h1 hq1 hq2 hq4)
            | (go_at_call 37; refine (HSR.out w2 HB2.out HQ1b.out).mono ?_; rintro e w3 ⟨c, rfl, h0, h1⟩; have HCU := Aside0.mk h0; have HB3 := Aside0.mk (HB2.out.trans (h1.mono HB2.out.size)); have hq1 := blk_below HQ1b.out h1; have HQ1c := Aside0.mk hq1; have HQ2c := Aside0.mk (blk_below HQ2b.out h1); have HQ4c := Aside0.mk (blk_below HQ4b.out h1); obtain ⟨s0, s1, s2, s3⟩ := cells_of hq1; clear h0 h1 hq1))
          go_upto_region 9 with fail
          have hcm := HCU.out.1
          have hn1 := HM0.out.1
          have hnL := HL.out
          have hnN := HN.out
          have hcn : c < n1 := by omega
          have hcb : c ≤ 300 := by omega
          have HCA := Aside0.mk (show ∀ w, Below W.heap.size W w → Kd.C Kd.string w a1 n1 K ∧ Kd.C Kd.string w a2 n2 V ∧ Kd.C (Kd.int .i64) w a3 n3 D from fun w hw => by
            have h := HK1.out.below hw
            have hn := HN.out
            rw [hn.1, hn.2.1, hn.2.2]
            exact ⟨h.k, h.v, h.d⟩)
          have HCC := Aside0.mk (show n1 ≤ c1 ∧ n2 ≤ c2 ∧ n3 ≤ c3 by
            have hn := HN.out
            have h := HK1.out
            exact ⟨by rw [hn.1]; exact h.kc, by rw [hn.2.1]; exact h.vc, by rw [hn.2.2]; exact h.dc⟩)
          obtain ⟨ad, hA, cel⟩ := Kd.at_string (HCA.out w3 HB3.out).1 (c : Int) (by omega) (by omega)
          subst hA
          clear cel
          obtain ⟨kc, hkc⟩ : ∃ kc, kc = K.getD c ByteArray.empty := ⟨_, rfl⟩
          have HST := Aside0.mk (show ∀ w', Below W.heap.size W w' → w'.cell? (ad.add c) = some (.string kc) from fun w' hw => by
            obtain ⟨ad', hA', cel'⟩ := Kd.at_string (HCA.out w' hw).1 (c : Int) (by omega) (by omega)
            injection hA' with hA'
            subst hA'
            rw [hkc]
            exact cel')
          have HKC := Aside0.mk hkc
          have HTL := Aside0.mk ((tail_lens (HR.out.1 (by first | rfl | trivial))).2 rfl)
          clear hcm hn1 hnL hnN hkc s0 s1 s2 s3
          obtain ⟨Kx, hKx⟩ : ∃ l, l = K.take c := ⟨_, rfl⟩
          have HKx := Aside0.mk hKx
          clear hKx
          obtain ⟨Ky, hKy⟩ : ∃ l, l = K.drop (c + 1) := ⟨_, rfl⟩
          have HKy := Aside0.mk hKy
          clear hKy
          obtain ⟨Vx, hVx⟩ : ∃ l, l = D.take (c + 1) := ⟨_, rfl⟩
          have HVx := Aside0.mk hVx
          clear hVx
          obtain ⟨Vy, hVy⟩ : ∃ l, l = D.drop (c + 1) := ⟨_, rfl⟩
          have HVy := Aside0.mk hVy
          clear hVy
          obtain ⟨AP, hAP⟩ : ∃ AP : Option Addr, AP = if c1 = (c + 1) then some ad else (some ad).map (·.add ((c + 1) * 1)) := ⟨_, rfl⟩
          obtain ⟨AQ, hAQ⟩ : ∃ AQ : Option Addr, AQ = if c3 = (c + 1) then a3 else a3.map (·.add ((c + 1) * 1)) := ⟨_, rfl⟩
          have HAP := Aside0.mk hAP
          have HAQ := Aside0.mk hAQ
          clear hAP hAQ
          have hdr : Below w3.heap.size w3 w3.drew := below_drew (Below.refl _ _)
          have HBa := Aside0.mk (HB3.out.trans (hdr.mono HB3.out.size))
          have HQ2w := Aside0.mk (blk_below HQ2c.out hdr)
          have HQ4w := Aside0.mk (blk_below HQ4c.out hdr)
          refine start_ (n := 34) (S := fun w' => Below W.heap.size W w' ∧ w'.heap[g1]? = some (.cells #[.bool false, .slice (some ad) n1 c1, .slice a2 n2 c2, .slice a3 n3 c3] 25 (0, 0))) (ds := []) #[false, false, false, false, false, false, false, false, false, false, false, false, false, false, false, false, false, false, false, false, false, false, false, false, false, false, false, false, false, false, false, false, false, false] (by kernel_rfl) rfl rfl ⟨HBa.out, blk_below HQ1c.out hdr⟩ (fun hHeld => ?_)
          refine pure_ (i := 0) (N := some 66) (v := ?_) (a' := ?_) #[true, false, false, false, false, false, false, false, false, false, false, false, false, false, false, false, false, false, false, false, false, false, false, false, false, false, false, false, false, false, false, false, false, false] rfl rfl (by kernel_rfl) (fun _ _ _ h => h) (Or.inl ⟨by rfl, ?_⟩) ?_ ?_
          rotate_left
          · intro w'
            go_simp
            with_reducible rfl
          rotate_left
          · simp only [Act.put, List.setIfInBounds_toArray, List.set_cons_zero, List.set_cons_succ]
            rfl
          refine pure_ (i := 2) (N := some 68) (v := ?_) (a' := ?_) #[true, false, true, false, false, false, false, false, false, false, false, false, false, false, false, false, false, false, false, false, false, false, false, false, false, false, false, false, false, false, false, false, false, false] rfl rfl (by kernel_rfl) (fun _ _ _ h => h) (Or.inl ⟨by rfl, ?_⟩) ?_ ?_
          rotate_left
          · intro w'
            go_simp
            with_reducible rfl
          rotate_left
          · simp only [Act.put, List.setIfInBounds_toArray, List.set_cons_zero, List.set_cons_succ]
            rfl
          refine pure_ (i := 5) (N := some 71) (v := ?_) (a' := ?_) #[true, false, true, false, false, true, false, false, false, false, false, false, false, false, false, false, false, false, false, false, false, false, false, false, false, false, false, false, false, false, false, false, false, false] rfl rfl (by kernel_rfl) (fun _ _ _ h => h) (Or.inl ⟨by rfl, ?_⟩) ?_ ?_
          rotate_left
          · intro w'
            go_simp
            with_reducible rfl
          rotate_left
          · simp only [Act.put, List.setIfInBounds_toArray, List.set_cons_zero, List.set_cons_succ]
            rfl
          refine pure_ (i := 7) (N := some 73) (v := ?_) (a' := ?_) #[true, false, true, false, false, true, false, true, false, false, false, false, false, false, false, false, false, false, false, false, false, false, false, false, false, false, false, false, false, false, false, false, false, false] rfl rfl (by kernel_rfl) (fun _ _ _ h => h) (Or.inl ⟨by rfl, ?_⟩) ?_ ?_
          rotate_left
          · intro w'
            go_simp
            with_reducible rfl
          rotate_left
          · simp only [Act.put, List.setIfInBounds_toArray, List.set_cons_zero, List.set_cons_succ]
            rfl
          refine pure_ (i := 12) (N := some 78) (v := ?_) (a' := ?_) #[true, false, true, false, false, true, false, true, false, false, false, false, true, false, false, false, false, false, false, false, false, false, false, false, false, false, false, false, false, false, false, false, false, false] rfl rfl (by kernel_rfl) (fun _ _ _ h => h) (Or.inl ⟨by rfl, ?_⟩) ?_ ?_
          rotate_left
          · intro w'
            go_simp
            with_reducible rfl
          rotate_left
          · simp only [Act.put, List.setIfInBounds_toArray, List.set_cons_zero, List.set_cons_succ]
            rfl
          refine pure_ (i := 14) (N := some 80) (v := ?_) (a' := ?_) #[true, false, true, false, false, true, false, true, false, false, false, false, true, false, true, false, false, false, false, false, false, false, false, false, false, false, false, false, false, false, false, false, false, false] rfl rfl (by kernel_rfl) (fun _ _ _ h => h) (Or.inl ⟨by rfl, ?_⟩) ?_ ?_
          rotate_left
          · intro w'
            go_simp
            with_reducible rfl
          rotate_left
          · simp only [Act.put, List.setIfInBounds_toArray, List.set_cons_zero, List.set_cons_succ]
            rfl
          refine pure_ (i := 17) (N := some 83) (v := ?_) (a' := ?_) #[true, false, true, false, false, true, false, true, false, false, false, false, true, false, true, false, false, true, false, false, false, false, false, false, false, false, false, false, false, false, false, false, false, false] rfl rfl (by kernel_rfl) (fun _ _ _ h => h) (Or.inl ⟨by rfl, ?_⟩) ?_ ?_
          rotate_left
          · intro w'
            go_simp
            with_reducible rfl
          rotate_left
          · simp only [Act.put, List.setIfInBounds_toArray, List.set_cons_zero, List.set_cons_succ]
            rfl
          refine pure_ (i := 19) (N := some 85) (v := ?_) (a' := ?_) #[true, false, true, false, false, true, false, true, false, false, false, false, true, false, true, false, false, true, false, true, false, false, false, false, false, false, false, false, false, false, false, false, false, false] rfl rfl (by kernel_rfl) (fun _ _ _ h => h) (Or.inl ⟨by rfl, ?_⟩) ?_ ?_
          rotate_left
          · intro w'
            go_simp
            with_reducible rfl
          rotate_left
          · simp only [Act.put, List.setIfInBounds_toArray, List.set_cons_zero, List.set_cons_succ]
            rfl
          refine pure_ (i := 23) (N := some 89) (v := ?_) (a' := ?_) #[true, false, true, false, false, true, false, true, false, false, false, false, true, false, true, false, false, true, false, true, false, false, false, true, false, false, false, false, false, false, false, false, false, false] rfl rfl (by kernel_rfl) (fun _ _ _ h => h) (Or.inl ⟨by rfl, ?_⟩) ?_ ?_
          rotate_left
          · intro w'
            go_simp
            with_reducible rfl
          rotate_left
          · simp only [Act.put, List.setIfInBounds_toArray, List.set_cons_zero, List.set_cons_succ]
            rfl
          refine pure_ (i := 25) (N := some 91) (v := ?_) (a' := ?_) #[true, false, true, false, false, true, false, true, false, false, false, false, true, false, true, false, false, true, false, true, false, false, false, true, false, true, false, false, false, false, false, false, false, false] rfl rfl (by kernel_rfl) (fun _ _ _ h => h) (Or.inl ⟨by rfl, ?_⟩) ?_ ?_
          rotate_left
          · intro w'
            go_simp
            with_reducible rfl
          rotate_left
          · simp only [Act.put, List.setIfInBounds_toArray, List.set_cons_zero, List.set_cons_succ]
            rfl
          refine take_ (i := 1) (N := some 67) (v := ?_) (a' := ?_) #[true, true, true, false, false, true, false, true, false, false, false, false, true, false, true, false, false, true, false, true, false, false, false, true, false, true, false, false, false, false, false, false, false, false] rfl rfl (by kernel_rfl) (fun _ _ _ h => h) (Or.inl ⟨by rfl, ?_⟩) hHeld ?_ ?_
          rotate_left
          · intro w' s0
            have s1 := (cells_of s0.2).2.1
            go_simp
            with_reducible rfl
          rotate_left
          · simp only [Act.put, List.setIfInBounds_toArray, List.set_cons_zero, List.set_cons_succ]
            rfl
          refine take_ (i := 6) (N := some 72) (v := ?_) (a' := ?_) #[true, true, true, false, false, true, true, true, false, false, false, false, true, false, true, false, false, true, false, true, false, false, false, true, false, true, false, false, false, false, false, false, false, false] rfl rfl (by kernel_rfl) (fun _ _ _ h => h) (Or.inl ⟨by rfl, ?_⟩) hHeld ?_ ?_
          rotate_left
          · intro w' s0
            have s1 := (cells_of s0.2).2.2.2
            go_simp
            with_reducible rfl
          rotate_left
          · simp only [Act.put, List.setIfInBounds_toArray, List.set_cons_zero, List.set_cons_succ]
            rfl
          refine take_ (i := 13) (N := some 79) (v := ?_) (a' := ?_) #[true, true, true, false, false, true, true, true, false, false, false, false, true, true, true, false, false, true, false, true, false, false, false, true, false, true, false, false, false, false, false, false, false, false] rfl rfl (by kernel_rfl) (fun _ _ _ h => h) (Or.inl ⟨by rfl, ?_⟩) hHeld ?_ ?_
          rotate_left
          · intro w' s0
            have s1 := (cells_of s0.2).2.1
            go_simp
            with_reducible rfl
          rotate_left
          · simp only [Act.put, List.setIfInBounds_toArray, List.set_cons_zero, List.set_cons_succ]
            rfl
          refine take_ (i := 18) (N := some 84) (v := ?_) (a' := ?_) #[true, true, true, false, false, true, true, true, false, false, false, false, true, true, true, false, false, true, true, true, false, false, false, true, false, true, false, false, false, false, false, false, false, false] rfl rfl (by kernel_rfl) (fun _ _ _ h => h) (Or.inl ⟨by rfl, ?_⟩) hHeld ?_ ?_
          rotate_left
          · intro w' s0
            have s1 := (cells_of s0.2).2.1
            go_simp
            with_reducible rfl
          rotate_left
          · simp only [Act.put, List.setIfInBounds_toArray, List.set_cons_zero, List.set_cons_succ]
            rfl
          refine take_ (i := 24) (N := some 90) (v := ?_) (a' := ?_) #[true, true, true, false, false, true, true, true, false, false, false, false, true, true, true, false, false, true, true, true, false, false, false, true, true, true, false, false, false, false, false, false, false, false] rfl rfl (by kernel_rfl) (fun _ _ _ h => h) (Or.inl ⟨by rfl, ?_⟩) hHeld ?_ ?_
          rotate_left
          · intro w' s0
            have s1 := (cells_of s0.2).2.2.2
            go_simp
            with_reducible rfl
          rotate_left
          · simp only [Act.put, List.setIfInBounds_toArray, List.set_cons_zero, List.set_cons_succ]
            rfl
          refine pure_ (i := 8) (N := some 74) (v := .int .i64 ((c + 1 : Nat) : Int)) (a' := ?_) #[true, true, true, false, false, true, true, true, true, false, false, false, true, true, true, false, false, true, true, true, false, false, false, true, true, true, false, false, false, false, false, false, false, false] rfl rfl (by kernel_rfl) (fun _ _ _ h => h) (Or.inl ⟨by rfl, ?_⟩) ?_ ?_
          · intro w'
            first | (go_simp; done) | (go_simp; rfl) | (go_simp; go_num) | (go_simp; rw [IntKind.wrap_i64]; omega)
          rotate_left
          · simp only [Act.put, List.setIfInBounds_toArray, List.set_cons_zero, List.set_cons_succ]
            rfl
          refine pure_ (i := 20) (N := some 86) (v := .int .i64 ((c + 1 : Nat) : Int)) (a' := ?_) #[true, true, true, false, false, true, true, true, true, false, false, false, true, true, true, false, false, true, true, true, true, false, false, true, true, true, false, false, false, false, false, false, false, false] rfl rfl (by kernel_rfl) (fun _ _ _ h => h) (Or.inl ⟨by rfl, ?_⟩) ?_ ?_
          · intro w'
            first | (go_simp; done) | (go_simp; rfl) | (go_simp; go_num) | (go_simp; rw [IntKind.wrap_i64]; omega)
          rotate_left
          · simp only [Act.put, List.setIfInBounds_toArray, List.set_cons_zero, List.set_cons_succ]
            rfl
          refine pure_ (i := 26) (N := some 92) (v := .int .i64 ((c + 1 : Nat) : Int)) (a' := ?_) #[true, true, true, false, false, true, true, true, true, false, false, false, true, true, true, false, false, true, true, true, true, false, false, true, true, true, true, false, false, false, false, false, false, false] rfl rfl (by kernel_rfl) (fun _ _ _ h => h) (Or.inl ⟨by rfl, ?_⟩) ?_ ?_
          · intro w'
            first | (go_simp; done) | (go_simp; rfl) | (go_simp; go_num) | (go_simp; rw [IntKind.wrap_i64]; omega)
          rotate_left
          · simp only [Act.put, List.setIfInBounds_toArray, List.set_cons_zero, List.set_cons_succ]
            rfl
          refine pure_ (i := 3) (N := some 69) (v := .slice (some ad) c c1) (a' := ?_) #[true, true, true, true, false, true, true, true, true, false, false, false, true, true, true, false, false, true, true, true, true, false, false, true, true, true, true, false, false, false, false, false, false, false] rfl rfl (by kernel_rfl) (fun _ _ _ h => h) (Or.inl ⟨by rfl, ?_⟩) ?_ ?_
          · intro w'
            exact ex_hi (x := .tmp 67) (y := .tmp 68) und22 size9 rfl rfl rfl (by have := HCC.out; omega)
          rotate_left
          · simp only [Act.put, List.setIfInBounds_toArray, List.set_cons_zero, List.set_cons_succ]
            rfl
          refine pure_ (i := 9) (N := some 75) (v := .slice a3 (c + 1) c3) (a' := ?_) #[true, true, true, true, false, true, true, true, true, true, false, false, true, true, true, false, false, true, true, true, true, false, false, true, true, true, true, false, false, false, false, false, false, false] rfl rfl (by kernel_rfl) (fun _ _ _ h => h) (Or.inl ⟨by rfl, ?_⟩) ?_ ?_
          · intro w'
            exact ex_hi (x := .tmp 72) (y := .tmp 74) und23 size3 rfl rfl rfl (by have := HCC.out; have := HTL.out; have := HN.out; omega)
          rotate_left
          · simp only [Act.put, List.setIfInBounds_toArray, List.set_cons_zero, List.set_cons_succ]
            rfl
          refine pure_ (i := 15) (N := some 81) (v := ?_) (a' := ?_) #[true, true, true, true, false, true, true, true, true, true, false, false, true, true, true, true, false, true, true, true, true, false, false, true, true, true, true, false, false, false, false, false, false, false] rfl rfl (by kernel_rfl) (fun _ _ _ h => h) (Or.inl ⟨by rfl, ?_⟩) ?_ ?_
          rotate_left
          · intro w'
            go_simp
            with_reducible rfl
          rotate_left
          · simp only [Act.put, List.setIfInBounds_toArray, List.set_cons_zero, List.set_cons_succ]
            rfl
          refine take_ (i := 16) (N := some 82) (v := ?_) (a' := ?_) #[true, true, true, true, false, true, true, true, true, true, false, false, true, true, true, true, true, true, true, true, true, false, false, true, true, true, true, false, false, false, false, false, false, false] rfl rfl (by kernel_rfl) (fun _ _ _ h => h) (Or.inl ⟨by rfl, ?_⟩) hHeld ?_ ?_
          rotate_left
          · intro w' s0
            have s1 := HST.out w' s0.1
            go_simp
            with_reducible rfl
          rotate_left
          · simp only [Act.put, List.setIfInBounds_toArray, List.set_cons_zero, List.set_cons_succ]
            rfl
          refine pure_ (i := 21) (N := some 87) (v := .slice AP (n1 - (c + 1)) (c1 - (c + 1))) (a' := ?_) #[true, true, true, true, false, true, true, true, true, true, false, false, true, true, true, true, true, true, true, true, true, true, false, true, true, true, true, false, false, false, false, false, false, false] rfl rfl (by kernel_rfl) (fun _ _ _ h => h) (Or.inl ⟨by rfl, ?_⟩) ?_ ?_
          · intro w'
            exact ex_lo (x := .tmp 84) (y := .tmp 86) und22 size9 rfl rfl rfl (by have := HCC.out; omega) HAP.out
          rotate_left
          · simp only [Act.put, List.setIfInBounds_toArray, List.set_cons_zero, List.set_cons_succ]
            rfl
          refine pure_ (i := 27) (N := some 93) (v := .slice AQ (n3 - (c + 1)) (c3 - (c + 1))) (a' := ?_) #[true, true, true, true, false, true, true, true, true, true, false, false, true, true, true, true, true, true, true, true, true, true, false, true, true, true, true, true, false, false, false, false, false, false] rfl rfl (by kernel_rfl) (fun _ _ _ h => h) (Or.inl ⟨by rfl, ?_⟩) ?_ ?_
          · intro w'
            exact ex_lo (x := .tmp 90) (y := .tmp 92) und23 size3 rfl rfl rfl (by have := HCC.out; have := HTL.out; have := HN.out; omega) HAQ.out
          rotate_left
          · simp only [Act.put, List.setIfInBounds_toArray, List.set_cons_zero, List.set_cons_succ]
            rfl
          refine one_ (i := 4) (N := some 70) #[true, true, true, true, true, true, true, true, true, true, false, false, true, true, true, true, true, true, true, true, true, true, false, true, true, true, true, true, false, false, false, false, false, false] rfl rfl (by kernel_rfl) (by decide) (fun K hK => ?_)
          refine goes_ Try.func39 (by kernel_rfl) rfl #[.slice (some ad) c c1] (by rfl) rfl rfl (by (try simp only [List.map_toArray, List.map_cons, List.map_nil]); first | done | rfl) ?_
          refine (clone_s _ (some ad) c c1 Kx (by rw [HKx.out]; exact takeC ((HCA.out _ HBa.out).1) (by have := HCC.out; omega)) (by have := HCC.out; have := HTL.out; have := HN.out; have := HL.out; omega)).mono ?_
          rintro e w4 ⟨v4, rfl, h4, h5⟩
          refine ⟨v4, rfl, ?_⟩
          obtain ⟨A4, d4, rfl⟩ := Kd.R_slice h4
          have X4 := Aside0.mk h4
          have hh : Below W.heap.size W w4 ∧ _ := ⟨hHeld.1.trans (h5.mono hHeld.1.size), blk_below hHeld.2 h5⟩
          have HB4' := Aside0.mk (HBa.out.trans (h5.mono HBa.out.size))
          have HQ2w := Aside0.mk (blk_below HQ2w.out h5)
          have HQ4w := Aside0.mk (blk_below HQ4w.out h5)
          clear h4 h5
          refine hK.out _ _ hh (fun hHeld => ?_)
          clear hK K hh
          refine one_ (i := 10) (N := some 76) #[true, true, true, true, true, true, true, true, true, true, true, false, true, true, true, true, true, true, true, true, true, true, false, true, true, true, true, true, false, false, false, false, false, false] rfl rfl (by kernel_rfl) (by decide) (fun K hK => ?_)
          refine goes_ Try.func40 (by kernel_rfl) rfl #[.slice a3 (c + 1) c3] (by rfl) rfl rfl (by (try simp only [List.map_toArray, List.map_cons, List.map_nil]); first | done | rfl) ?_
          refine (clone_i _ a3 (c + 1) c3 Vx (by rw [HVx.out]; exact takeC ((HCA.out _ HB4'.out).2.2) (by have := HCC.out; have := HTL.out; have := HN.out; omega)) (by have := HCC.out; have := HTL.out; have := HN.out; have := HL.out; omega)).mono ?_
          rintro e w5 ⟨v5, rfl, h4, h5⟩
          refine ⟨v5, rfl, ?_⟩
          obtain ⟨A5, d5, rfl⟩ := Kd.R_slice h4
          have X5 := Aside0.mk h4
          have X4 := Aside0.mk (X4.out.below h5)
          have hh : Below W.heap.size W w5 ∧ _ := ⟨hHeld.1.trans (h5.mono hHeld.1.size), blk_below hHeld.2 h5⟩
          have HB5' := Aside0.mk (HB4'.out.trans (h5.mono HB4'.out.size))
          have HQ2w := Aside0.mk (blk_below HQ2w.out h5)
          have HQ4w := Aside0.mk (blk_below HQ4w.out h5)
          clear h4 h5
          refine hK.out _ _ hh (fun hHeld => ?_)
          clear hK K hh
          refine pure_ (i := 11) (N := some 77) (v := .agg #[.bool false, .slice A4 Kx.length d4, .slice none 0 0, .slice A5 Vx.length d5]) (a' := ?_) #[true, true, true, true, true, true, true, true, true, true, true, true, true, true, true, true, true, true, true, true, true, true, false, true, true, true, true, true, false, false, false, false, false, false] rfl rfl (by kernel_rfl) (fun _ _ _ h => h) (Or.inl ⟨by rfl, ?_⟩) ?_ ?_
          · intro w'
            go_simp
          rotate_left
          · simp only [Act.put, List.setIfInBounds_toArray, List.set_cons_zero, List.set_cons_succ]
            rfl
          refine one_ (i := 22) (N := some 88) #[true, true, true, true, true, true, true, true, true, true, true, true, true, true, true, true, true, true, true, true, true, true, true, true, true, true, true, true, false, false, false, false, false, false] rfl rfl (by kernel_rfl) (by decide) (fun K hK => ?_)
          refine goes_ Try.func39 (by kernel_rfl) rfl #[.slice AP (n1 - (c + 1)) (c1 - (c + 1))] (by rfl) rfl rfl (by (try simp only [List.map_toArray, List.map_cons, List.map_nil]); first | done | rfl) ?_
          refine (clone_s _ AP (n1 - (c + 1)) (c1 - (c + 1)) Ky (by rw [HKy.out]; exact dropC ((HCA.out _ HB5'.out).1) (by have := HCC.out; omega) HCC.out.1 rfl HAP.out) (by have := HCC.out; have := HTL.out; have := HN.out; have := HL.out; omega)).mono ?_
          rintro e w6 ⟨v6, rfl, h4, h5⟩
          refine ⟨v6, rfl, ?_⟩
          obtain ⟨A6, d6, rfl⟩ := Kd.R_slice h4
          have X6 := Aside0.mk h4
          have X4 := Aside0.mk (X4.out.below h5)
          have X5 := Aside0.mk (X5.out.below h5)
          have hh : Below W.heap.size W w6 ∧ _ := ⟨hHeld.1.trans (h5.mono hHeld.1.size), blk_below hHeld.2 h5⟩
          have HB6' := Aside0.mk (HB5'.out.trans (h5.mono HB5'.out.size))
          have HQ2w := Aside0.mk (blk_below HQ2w.out h5)
          have HQ4w := Aside0.mk (blk_below HQ4w.out h5)
          clear h4 h5
          refine hK.out _ _ hh (fun hHeld => ?_)
          clear hK K hh
          refine one_ (i := 28) (N := some 94) #[true, true, true, true, true, true, true, true, true, true, true, true, true, true, true, true, true, true, true, true, true, true, true, true, true, true, true, true, true, false, false, false, false, false] rfl rfl (by kernel_rfl) (by decide) (fun K hK => ?_)
          refine goes_ Try.func40 (by kernel_rfl) rfl #[.slice AQ (n3 - (c + 1)) (c3 - (c + 1))] (by rfl) rfl rfl (by (try simp only [List.map_toArray, List.map_cons, List.map_nil]); first | done | rfl) ?_
          refine (clone_i _ AQ (n3 - (c + 1)) (c3 - (c + 1)) Vy (by rw [HVy.out]; exact dropC ((HCA.out _ HB6'.out).2.2) (by have := HCC.out; have := HTL.out; have := HN.out; omega) HCC.out.2.2 rfl HAQ.out) (by have := HCC.out; have := HTL.out; have := HN.out; have := HL.out; omega)).mono ?_
          rintro e w7 ⟨v7, rfl, h4, h5⟩
          refine ⟨v7, rfl, ?_⟩
          obtain ⟨A7, d7, rfl⟩ := Kd.R_slice h4
          have X7 := Aside0.mk h4
          have X4 := Aside0.mk (X4.out.below h5)
          have X5 := Aside0.mk (X5.out.below h5)
          have X6 := Aside0.mk (X6.out.below h5)
          have hh : Below W.heap.size W w7 ∧ _ := ⟨hHeld.1.trans (h5.mono hHeld.1.size), blk_below hHeld.2 h5⟩
          have HB7' := Aside0.mk (HB6'.out.trans (h5.mono HB6'.out.size))
          have HQ2w := Aside0.mk (blk_below HQ2w.out h5)
          have HQ4w := Aside0.mk (blk_below HQ4w.out h5)
          clear h4 h5
          refine hK.out _ _ hh (fun hHeld => ?_)
          clear hK K hh
          refine pure_ (i := 29) (N := some 95) (v := .agg #[.bool false, .slice A6 Ky.length d6, .slice none 0 0, .slice A7 Vy.length d7]) (a' := ?_) #[true, true, true, true, true, true, true, true, true, true, true, true, true, true, true, true, true, true, true, true, true, true, true, true, true, true, true, true, true, true, false, false, false, false] rfl rfl (by kernel_rfl) (fun _ _ _ h => h) (Or.inl ⟨by rfl, ?_⟩) ?_ ?_
          · intro w'
            go_simp
          rotate_left
          · simp only [Act.put, List.setIfInBounds_toArray, List.set_cons_zero, List.set_cons_succ]
            rfl
          have hq2 := HQ2w.out
          have hq4 := HQ4w.out
          obtain ⟨y0, y1, y2, y3⟩ := cells_of hq2
          have f0 := frz_of hq2 0
          have f1 := frz_of hq2 1
          have f2 := frz_of hq2 2
          have f3 := frz_of hq2 3
          obtain ⟨k0, k1, k2, k3⟩ := cells_of hq4
          have u0 := frz_of hq4 0
          have u1 := frz_of hq4 1
          have u2 := frz_of hq4 2
          have u3 := frz_of hq4 3
          refine one_ (i := 30) (N := none) #[true, true, true, true, true, true, true, true, true, true, true, true, true, true, true, true, true, true, true, true, true, true, true, true, true, true, true, true, true, true, true, false, false, false] rfl rfl (by kernel_rfl) (by decide) (fun K hK => ?_)
          refine skip_ rfl rfl (w1 := set4 w7 g2 (.bool false) (.slice A4 Kx.length d4) (.slice none 0 0) (.slice A5 Vx.length d5)) (by first | (go_simp; done) | (go_simp; rfl)) ?_
          refine hK.out _ _ ⟨set4_below hHeld.1 HG2.out _ _ _ _, set4_ne hHeld.2 HN1.out.1 _ _ _ _⟩ (fun hHeld => ?_)
          clear hK K 
          refine pure_ (i := 31) (N := some 3) (v := ?_) (a' := ?_) #[true, true, true, true, true, true, true, true, true, true, true, true, true, true, true, true, true, true, true, true, true, true, true, true, true, true, true, true, true, true, true, true, false, false] rfl rfl (by kernel_rfl) (fun _ _ _ h => h) (Or.inl ⟨by rfl, ?_⟩) ?_ ?_
          rotate_left
          · intro w'
            go_simp
            with_reducible rfl
          rotate_left
          · simp only [Act.put, List.setIfInBounds_toArray, List.set_cons_zero, List.set_cons_succ]
            rfl
          have hA4 := set4_ne hq4 HNE.out (.bool false) (.slice A4 Kx.length d4) (.slice none 0 0) (.slice A5 Vx.length d5)
          obtain ⟨l0, l1, l2, l3⟩ := cells_of hA4
          have r0 := frz_of hA4 0
          have r1 := frz_of hA4 1
          have r2 := frz_of hA4 2
          have r3 := frz_of hA4 3
          refine one_ (i := 32) (N := none) #[true, true, true, true, true, true, true, true, true, true, true, true, true, true, true, true, true, true, true, true, true, true, true, true, true, true, true, true, true, true, true, true, true, false] rfl rfl (by kernel_rfl) (by decide) (fun K hK => ?_)
          refine skip_ rfl rfl (w1 := set4 (set4 w7 g2 (.bool false) (.slice A4 Kx.length d4) (.slice none 0 0) (.slice A5 Vx.length d5)) g4 (.bool false) (.slice A6 Ky.length d6) (.slice none 0 0) (.slice A7 Vy.length d7)) (by first | (go_simp; done) | (go_simp; rfl)) ?_
          refine hK.out _ _ ⟨set4_below hHeld.1 HG4.out _ _ _ _, set4_ne hHeld.2 HN1.out.2 _ _ _ _⟩ (fun hHeld => ?_)
          clear hK K 
          refine pure_ (i := 33) (N := some 5) (v := ?_) (a' := ?_) #[true, true, true, true, true, true, true, true, true, true, true, true, true, true, true, true, true, true, true, true, true, true, true, true, true, true, true, true, true, true, true, true, true, true] rfl rfl (by kernel_rfl) (fun _ _ _ h => h) (Or.inl ⟨by rfl, ?_⟩) ?_ ?_
          rotate_left
          · intro w'
            go_simp
            with_reducible rfl
          rotate_left
          · simp only [Act.put, List.setIfInBounds_toArray, List.set_cons_zero, List.set_cons_succ]
            rfl
          refine done_ (by kernel_rfl) ?_
          have hm : m = true := HM.out.2 ⟨HR.out.1 (by first | rfl | trivial), by rw [← HNN.out]; omega, by rw [← HN.out.1]; unfold keepN; simp; omega⟩
          have hA2 := set4_ne (set4_blk hq2 (.bool false) (.slice A4 Kx.length d4) (.slice none 0 0) (.slice A5 Vx.length d5)) hne' (.bool false) (.slice A6 Ky.length d6) (.slice none 0 0) (.slice A7 Vy.length d7)
          have hA5 := set4_blk hA4 (.bool false) (.slice A6 Ky.length d6) (.slice none 0 0) (.slice A7 Vy.length d7)
          have hle := HB3.out.size
          have e4 := ((X4.out.set4 hq2 (by intro q hq; simp [Kd.string, Kd.scalar] at hq; subst hq; decide) (.bool false) (.slice A4 Kx.length d4) (.slice none 0 0) (.slice A5 Vx.length d5)).set4 hA4 (by intro q hq; simp [Kd.string, Kd.scalar] at hq; subst hq; decide) (.bool false) (.slice A6 Ky.length d6) (.slice none 0 0) (.slice A7 Vy.length d7))
          have e5 := ((X5.out.set4 hq2 (by intro q hq; simp [Kd.int, Kd.scalar] at hq; subst hq; decide) (.bool false) (.slice A4 Kx.length d4) (.slice none 0 0) (.slice A5 Vx.length d5)).set4 hA4 (by intro q hq; simp [Kd.int, Kd.scalar] at hq; subst hq; decide) (.bool false) (.slice A6 Ky.length d6) (.slice none 0 0) (.slice A7 Vy.length d7))
          have e6 := ((X6.out.set4 hq2 (by intro q hq; simp [Kd.string, Kd.scalar] at hq; subst hq; decide) (.bool false) (.slice A4 Kx.length d4) (.slice none 0 0) (.slice A5 Vx.length d5)).set4 hA4 (by intro q hq; simp [Kd.string, Kd.scalar] at hq; subst hq; decide) (.bool false) (.slice A6 Ky.length d6) (.slice none 0 0) (.slice A7 Vy.length d7))
          have e7 := ((X7.out.set4 hq2 (by intro q hq; simp [Kd.int, Kd.scalar] at hq; subst hq; decide) (.bool false) (.slice A4 Kx.length d4) (.slice none 0 0) (.slice A5 Vx.length d5)).set4 hA4 (by intro q hq; simp [Kd.int, Kd.scalar] at hq; subst hq; decide) (.bool false) (.slice A6 Ky.length d6) (.slice none 0 0) (.slice A7 Vy.length d7))
          go_wp2
          refine bodyPost_ret (results_list (rs := [.cell 2 25, .tmp 3, .cell 4 25, .tmp 5]) rfl (by simp) (.cell g2 25 _ (0, 0) _ rfl hA2 Try.underlying25 rfl (by kernel_rfl) (.tmp (.cell g4 25 _ (0, 0) _ rfl hA5 Try.underlying25 rfl (by kernel_rfl) (.tmp .nil))))) rfl ?_
          refine ⟨_, rfl, .inr ⟨hm, c, ⟨A4, d4, none, 0, A5, d5⟩, ⟨A6, d6, none, 0, A7, d7⟩, ?_, ?_, ?_, ?_⟩, set4_below (set4_below HB7'.out HG2.out _ _ _ _) HG4.out _ _ _ _⟩
          · have h := HCU.out
            rw [HM0.out.1, HN.out.1] at h
            exact h
          · show _ = Value.tuple #[.agg #[.bool false, .slice A4 (K.take c).length d4, .slice none 0 0, .slice A5 (D.take (c + 1)).length d5], .string (K.getD c ByteArray.empty), .agg #[.bool false, .slice A6 (K.drop (c + 1)).length d6, .slice none 0 0, .slice A7 (D.drop (c + 1)).length d7], .bool true]
            rw [← HKx.out, ← HVx.out, ← HKy.out, ← HVy.out, ← HKC.out]
            rfl
          · exact ⟨(by show RowR Kd.string 9 W.heap.size _ (.slice A4 (K.take c).length d4) (K.take c); rw [← HKx.out]; exact Kd.R_lower e4 HBa.out.size), Kd.R_nil _ _ _ _ _, (by show RowR (Kd.int .i64) 3 W.heap.size _ (.slice A5 (D.take (c + 1)).length d5) (D.take (c + 1)); rw [← HVx.out]; exact Kd.R_lower e5 HB4'.out.size)⟩
          · exact ⟨(by show RowR Kd.string 9 W.heap.size _ (.slice A6 (K.drop (c + 1)).length d6) (K.drop (c + 1)); rw [← HKy.out]; exact Kd.R_lower e6 HB5'.out.size), Kd.R_nil _ _ _ _ _, (by show RowR (Kd.int .i64) 3 W.heap.size _ (.slice A7 (D.drop (c + 1)).length d7) (D.drop (c + 1)); rw [← HVy.out]; exact Kd.R_lower e7 HB6'.out.size)⟩
  | true =>
    cases r1 with
    | false =>
      go_wp2_with (go_at_call 35; refine (HC1.out w0 HB0.out).mono ?_; rintro e w1 ⟨rfl, h1⟩; have HB1 := Aside0.mk (HB0.out.trans (h1.mono HB0.out.size)); have hq1 := blk_below HQ1.out h1; have hq2 := blk_below HQ2.out h1; have hq4 := blk_below HQ4.out h1; obtain ⟨z0, z1, z2, z3⟩ := cells_of hq1; obtain ⟨y0, y1, y2, y3⟩ := cells_of hq2; have f0 := frz_of hq2 0; have f1 := frz_of hq2 1; have f2 := frz_of hq2 2; have f3 := frz_of hq2 3; obtain ⟨v0, v1, v2, v3⟩ := cells_of hq4; have u0 := frz_of hq4 0; have u1 := frz_of hq4 1; have u2 := frz_of hq4 2; have u3 := frz_of hq4 3; have HQ1a := Aside0.mk hq1; have HQ2a := Aside0.mk hq2; have HQ4a := Aside0.mk hq4; clear h1 hq1 hq2 hq4)
      have hm : m = false := by
        cases m with
        | false => rfl
        | true => exact absurd (HR.out.2 (HM.out.1 rfl).1) (by decide)
      have hA := set4_ne (set4_blk HQ2a.out (.bool false) (.slice none 0 0) (.slice none 0 0) (.slice none 0 0)) hne' (.bool false) (.slice none 0 0) (.slice none 0 0) (.slice none 0 0)
      have hA4 := set4_blk (set4_ne HQ4a.out hne (.bool false) (.slice none 0 0) (.slice none 0 0) (.slice none 0 0)) (.bool false) (.slice none 0 0) (.slice none 0 0) (.slice none 0 0)
      refine bodyPost_ret (results_list (rs := [.cell 2 25, .tmp 3, .cell 4 25, .tmp 5]) rfl (by simp) (.cell g2 25 #[.bool false, .slice none 0 0, .slice none 0 0, .slice none 0 0] (0, 0) _ rfl hA Try.underlying25 rfl (by kernel_rfl) (.tmp (.cell g4 25 #[.bool false, .slice none 0 0, .slice none 0 0, .slice none 0 0] (0, 0) _ rfl hA4 Try.underlying25 rfl (by kernel_rfl) (.tmp .nil))))) rfl ?_
      exact ⟨_, rfl, .inl ⟨hm, rfl⟩, set4_below (set4_below HB1.out HG2.out _ _ _ _) HG4.out _ _ _ _⟩
    | true =>
      have HSM := Aside0.mk (small_can (HR.out.1 rfl) (by have := HL.out; omega) (by have := HL.out; omega))
      obtain ⟨N, hN⟩ : ∃ N, N = needTo true K V K.length := ⟨_, rfl⟩
      have hnd := fun (w : World) (hB : Below W.heap.size W w) => nneed_c (HK1.out.below hB) HSM.out.1 HSM.out.2.1 K.length (Nat.le_refl _) HSM.out.2.2
      rw [← hN, ← HN.out.1, ← HN.out.2.1, ← HN.out.2.2] at hnd
      dsimp only at hnd
      have HND := Aside0.mk hnd
      have HNN := Aside0.mk hN
      clear hnd hN
      by_cases hlim : N ≤ 509
      · have e1 : decide (N ≤ 509) = true := decide_eq_true hlim
        go_wp2_with (first
          | (go_at_call 36; refine (HND.out w1 HB1.out).mono ?_; rintro e w2 ⟨rfl, h1⟩; have HB2 := Aside0.mk (HB1.out.trans (h1.mono HB1.out.size)); have hq1 := blk_below HQ1a.out h1; have hq2 := blk_below HQ2a.out h1; have hq4 := blk_below HQ4a.out h1; obtain ⟨t0, t1, t2, t3⟩ := cells_of hq1; obtain ⟨y0, y1, y2, y3⟩ := cells_of hq2; have f0 := frz_of hq2 0; have f1 := frz_of hq2 1; have f2 := frz_of hq2 2; have f3 := frz_of hq2 3; obtain ⟨v0, v1, v2, v3⟩ := cells_of hq4; have u0 := frz_of hq4 0; have u1 := frz_of hq4 1; have u2 := frz_of hq4 2; have u3 := frz_of hq4 3; have HQ1b := Aside0.mk hq1; have HQ2b := Aside0.mk hq2; have HQ4b := Aside0.mk hq4; clear h1 hq1 hq2 hq4)
          | (go_at_call 35; refine (HC1.out w0 HB0.out).mono ?_; rintro e w1 ⟨rfl, h1⟩; have HB1 := Aside0.mk (HB0.out.trans (h1.mono HB0.out.size)); have hq1 := blk_below HQ1.out h1; have hq2 := blk_below HQ2.out h1; have hq4 := blk_below HQ4.out h1; obtain ⟨z0, z1, z2, z3⟩ := cells_of hq1;  have HQ1a := Aside0.mk hq1; have HQ2a := Aside0.mk hq2; have HQ4a := Aside0.mk hq4; clear h1 hq1 hq2 hq4))
        have hm : m = false := by
          cases m with
          | false => rfl
          | true => exact absurd (by have h := (HM.out.1 rfl).2.1; rw [← HNN.out] at h; omega : false = true) (by decide)
        have hA := set4_ne (set4_blk HQ2b.out (.bool false) (.slice none 0 0) (.slice none 0 0) (.slice none 0 0)) hne' (.bool false) (.slice none 0 0) (.slice none 0 0) (.slice none 0 0)
        have hA4 := set4_blk (set4_ne HQ4b.out hne (.bool false) (.slice none 0 0) (.slice none 0 0) (.slice none 0 0)) (.bool false) (.slice none 0 0) (.slice none 0 0) (.slice none 0 0)
        refine bodyPost_ret (results_list (rs := [.cell 2 25, .tmp 3, .cell 4 25, .tmp 5]) rfl (by simp) (.cell g2 25 #[.bool false, .slice none 0 0, .slice none 0 0, .slice none 0 0] (0, 0) _ rfl hA Try.underlying25 rfl (by kernel_rfl) (.tmp (.cell g4 25 #[.bool false, .slice none 0 0, .slice none 0 0, .slice none 0 0] (0, 0) _ rfl hA4 Try.underlying25 rfl (by kernel_rfl) (.tmp .nil))))) rfl ?_
        exact ⟨_, rfl, .inl ⟨hm, rfl⟩, set4_below (set4_below HB2.out HG2.out _ _ _ _) HG4.out _ _ _ _⟩
      · have e1 : decide (N ≤ 509) = false := decide_eq_false hlim
        by_cases hk : n1 ≤ 1
        · have e2 : decide ((n1 : Int) ≤ 1) = true := decide_eq_true (by omega)
          go_wp2_with (first
            | (go_at_call 36; refine (HND.out w1 HB1.out).mono ?_; rintro e w2 ⟨rfl, h1⟩; have HB2 := Aside0.mk (HB1.out.trans (h1.mono HB1.out.size)); have hq1 := blk_below HQ1a.out h1; have hq2 := blk_below HQ2a.out h1; have hq4 := blk_below HQ4a.out h1; obtain ⟨t0, t1, t2, t3⟩ := cells_of hq1; obtain ⟨y0, y1, y2, y3⟩ := cells_of hq2; have f0 := frz_of hq2 0; have f1 := frz_of hq2 1; have f2 := frz_of hq2 2; have f3 := frz_of hq2 3; obtain ⟨v0, v1, v2, v3⟩ := cells_of hq4; have u0 := frz_of hq4 0; have u1 := frz_of hq4 1; have u2 := frz_of hq4 2; have u3 := frz_of hq4 3; have HQ1b := Aside0.mk hq1; have HQ2b := Aside0.mk hq2; have HQ4b := Aside0.mk hq4; clear h1 hq1 hq2 hq4)
            | (go_at_call 35; refine (HC1.out w0 HB0.out).mono ?_; rintro e w1 ⟨rfl, h1⟩; have HB1 := Aside0.mk (HB0.out.trans (h1.mono HB0.out.size)); have hq1 := blk_below HQ1.out h1; have hq2 := blk_below HQ2.out h1; have hq4 := blk_below HQ4.out h1; obtain ⟨z0, z1, z2, z3⟩ := cells_of hq1;  have HQ1a := Aside0.mk hq1; have HQ2a := Aside0.mk hq2; have HQ4a := Aside0.mk hq4; clear h1 hq1 hq2 hq4))
          have hm : m = false := by
            cases m with
            | false => rfl
            | true => exact absurd (by have h := (HM.out.1 rfl).2.2; rw [← HN.out.1] at h; unfold keepN at h; simp at h; omega : false = true) (by decide)
          have hA := set4_ne (set4_blk HQ2b.out (.bool false) (.slice none 0 0) (.slice none 0 0) (.slice none 0 0)) hne' (.bool false) (.slice none 0 0) (.slice none 0 0) (.slice none 0 0)
          have hA4 := set4_blk (set4_ne HQ4b.out hne (.bool false) (.slice none 0 0) (.slice none 0 0) (.slice none 0 0)) (.bool false) (.slice none 0 0) (.slice none 0 0) (.slice none 0 0)
          refine bodyPost_ret (results_list (rs := [.cell 2 25, .tmp 3, .cell 4 25, .tmp 5]) rfl (by simp) (.cell g2 25 #[.bool false, .slice none 0 0, .slice none 0 0, .slice none 0 0] (0, 0) _ rfl hA Try.underlying25 rfl (by kernel_rfl) (.tmp (.cell g4 25 #[.bool false, .slice none 0 0, .slice none 0 0, .slice none 0 0] (0, 0) _ rfl hA4 Try.underlying25 rfl (by kernel_rfl) (.tmp .nil))))) rfl ?_
          exact ⟨_, rfl, .inl ⟨hm, rfl⟩, set4_below (set4_below HB2.out HG2.out _ _ _ _) HG4.out _ _ _ _⟩
        · have e2 : decide ((n1 : Int) ≤ 1) = false := decide_eq_false (by omega)
          obtain ⟨m0, hm0⟩ : ∃ m0 : Nat, m0 = n1 - 1 := ⟨_, rfl⟩
          have em0 : wrap64 ((n1 : Int) - 1) = (m0 : Int) := (wrap_in (by have := HL.out; have := HN.out; omega) (by have := HL.out; have := HN.out; omega)).trans (by omega)
          have hsr := fun (w : World) (hB : Below W.heap.size W w) (hq : w.heap[g1]? = some (.cells #[.bool true, .slice a1 K.length c1, .slice a2 V.length c2, .slice a3 D.length c3] 25 (0, 0))) => search_c w g1 ⟨a1, c1, a2, c2, a3, c3⟩ true K V D hq (HK1.out.below hB) HSM.out.1 HSM.out.2.1 m0 (by rw [← HN.out.1]; omega) (fun e => by have := HSM.out.2.2 e; rw [← HN.out.1] at this; omega)
          rw [← em0, ← HN.out.1, ← HN.out.2.1, ← HN.out.2.2] at hsr
          have HSR := Aside0.mk hsr
          have HM0 := Aside0.mk (And.intro hm0 em0)
          clear hsr em0 hm0
          go_upto_region 7 with (first
            | (go_at_call 36; refine (HND.out w1 HB1.out).mono ?_; rintro e w2 ⟨rfl, h1⟩; have HB2 := Aside0.mk (HB1.out.trans (h1.mono HB1.out.size)); have hq1 := blk_below HQ1a.out h1; have hq2 := blk_below HQ2a.out h1; have hq4 := blk_below HQ4a.out h1; obtain ⟨t0, t1, t2, t3⟩ := cells_of hq1; obtain ⟨y0, y1, y2, y3⟩ := cells_of hq2; have f0 := frz_of hq2 0; have f1 := frz_of hq2 1; have f2 := frz_of hq2 2; have f3 := frz_of hq2 3; obtain ⟨v0, v1, v2, v3⟩ := cells_of hq4; have u0 := frz_of hq4 0; have u1 := frz_of hq4 1; have u2 := frz_of hq4 2; have u3 := frz_of hq4 3; have HQ1b := Aside0.mk hq1; have HQ2b := Aside0.mk hq2; have HQ4b := Aside0.mk hq4; clear h1 hq1 hq2 hq4)
            | (go_at_call 35; refine (HC1.out w0 HB0.out).mono ?_; rintro e w1 ⟨rfl, h1⟩; have HB1 := Aside0.mk (HB0.out.trans (h1.mono HB0.out.size)); have hq1 := blk_below HQ1.out h1; have hq2 := blk_below HQ2.out h1; have hq4 := blk_below HQ4.out h1; obtain ⟨z0, z1, z2, z3⟩ := cells_of hq1;  have HQ1a := Aside0.mk hq1; have HQ2a := Aside0.mk hq2; have HQ4a := Aside0.mk hq4; clear h1 hq1 hq2 hq4)
            | (go_at_call 37; refine (HSR.out w2 HB2.out HQ1b.out).mono ?_; rintro e w3 ⟨c, rfl, h0, h1⟩; have HCU := Aside0.mk h0; have HB3 := Aside0.mk (HB2.out.trans (h1.mono HB2.out.size)); have hq1 := blk_below HQ1b.out h1; have HQ1c := Aside0.mk hq1; have HQ2c := Aside0.mk (blk_below HQ2b.out h1); have HQ4c := Aside0.mk (blk_below HQ4b.out h1); obtain ⟨s0, s1, s2, s3⟩ := cells_of hq1; clear h0 h1 hq1))
          go_upto_region 8 with fail
          have hcm := HCU.out.1
          have hn1 := HM0.out.1
          have hnL := HL.out
          have hnN := HN.out
          have hcn : c < n1 := by omega
          have hcb : c ≤ 300 := by omega
          have HCA := Aside0.mk (show ∀ w, Below W.heap.size W w → Kd.C Kd.string w a1 n1 K ∧ Kd.C Kd.string w a2 n2 V ∧ Kd.C (Kd.int .i64) w a3 n3 D from fun w hw => by
            have h := HK1.out.below hw
            have hn := HN.out
            rw [hn.1, hn.2.1, hn.2.2]
            exact ⟨h.k, h.v, h.d⟩)
          have HCC := Aside0.mk (show n1 ≤ c1 ∧ n2 ≤ c2 ∧ n3 ≤ c3 by
            have hn := HN.out
            have h := HK1.out
            exact ⟨by rw [hn.1]; exact h.kc, by rw [hn.2.1]; exact h.vc, by rw [hn.2.2]; exact h.dc⟩)
          obtain ⟨ad, hA, cel⟩ := Kd.at_string (HCA.out w3 HB3.out).1 (c : Int) (by omega) (by omega)
          subst hA
          clear cel
          obtain ⟨kc, hkc⟩ : ∃ kc, kc = K.getD c ByteArray.empty := ⟨_, rfl⟩
          have HST := Aside0.mk (show ∀ w', Below W.heap.size W w' → w'.cell? (ad.add c) = some (.string kc) from fun w' hw => by
            obtain ⟨ad', hA', cel'⟩ := Kd.at_string (HCA.out w' hw).1 (c : Int) (by omega) (by omega)
            injection hA' with hA'
            subst hA'
            rw [hkc]
            exact cel')
          have HKC := Aside0.mk hkc
          have HTL := Aside0.mk ((tail_lens (HR.out.1 (by first | rfl | trivial))).1 rfl)
          clear hcm hn1 hnL hnN hkc s0 s1 s2 s3
          obtain ⟨Kx, hKx⟩ : ∃ l, l = K.take c := ⟨_, rfl⟩
          have HKx := Aside0.mk hKx
          clear hKx
          obtain ⟨Ky, hKy⟩ : ∃ l, l = K.drop c := ⟨_, rfl⟩
          have HKy := Aside0.mk hKy
          clear hKy
          obtain ⟨Vx, hVx⟩ : ∃ l, l = V.take c := ⟨_, rfl⟩
          have HVx := Aside0.mk hVx
          clear hVx
          obtain ⟨Vy, hVy⟩ : ∃ l, l = V.drop c := ⟨_, rfl⟩
          have HVy := Aside0.mk hVy
          clear hVy
          obtain ⟨AP, hAP⟩ : ∃ AP : Option Addr, AP = if c1 = c then some ad else (some ad).map (·.add (c * 1)) := ⟨_, rfl⟩
          obtain ⟨AQ, hAQ⟩ : ∃ AQ : Option Addr, AQ = if c2 = c then a2 else a2.map (·.add (c * 1)) := ⟨_, rfl⟩
          have HAP := Aside0.mk hAP
          have HAQ := Aside0.mk hAQ
          clear hAP hAQ
          have hdr : Below w3.heap.size w3 w3.drew := below_drew (Below.refl _ _)
          have HBa := Aside0.mk (HB3.out.trans (hdr.mono HB3.out.size))
          have HQ2w := Aside0.mk (blk_below HQ2c.out hdr)
          have HQ4w := Aside0.mk (blk_below HQ4c.out hdr)
          refine start_ (n := 31) (S := fun w' => Below W.heap.size W w' ∧ w'.heap[g1]? = some (.cells #[.bool true, .slice (some ad) n1 c1, .slice a2 n2 c2, .slice a3 n3 c3] 25 (0, 0))) (ds := []) #[false, false, false, false, false, false, false, false, false, false, false, false, false, false, false, false, false, false, false, false, false, false, false, false, false, false, false, false, false, false, false] (by kernel_rfl) rfl rfl ⟨HBa.out, blk_below HQ1c.out hdr⟩ (fun hHeld => ?_)
          refine pure_ (i := 0) (N := some 39) (v := ?_) (a' := ?_) #[true, false, false, false, false, false, false, false, false, false, false, false, false, false, false, false, false, false, false, false, false, false, false, false, false, false, false, false, false, false, false] rfl rfl (by kernel_rfl) (fun _ _ _ h => h) (Or.inl ⟨by rfl, ?_⟩) ?_ ?_
          rotate_left
          · intro w'
            go_simp
            with_reducible rfl
          rotate_left
          · simp only [Act.put, List.setIfInBounds_toArray, List.set_cons_zero, List.set_cons_succ]
            rfl
          refine pure_ (i := 2) (N := some 41) (v := ?_) (a' := ?_) #[true, false, true, false, false, false, false, false, false, false, false, false, false, false, false, false, false, false, false, false, false, false, false, false, false, false, false, false, false, false, false] rfl rfl (by kernel_rfl) (fun _ _ _ h => h) (Or.inl ⟨by rfl, ?_⟩) ?_ ?_
          rotate_left
          · intro w'
            go_simp
            with_reducible rfl
          rotate_left
          · simp only [Act.put, List.setIfInBounds_toArray, List.set_cons_zero, List.set_cons_succ]
            rfl
          refine pure_ (i := 5) (N := some 44) (v := ?_) (a' := ?_) #[true, false, true, false, false, true, false, false, false, false, false, false, false, false, false, false, false, false, false, false, false, false, false, false, false, false, false, false, false, false, false] rfl rfl (by kernel_rfl) (fun _ _ _ h => h) (Or.inl ⟨by rfl, ?_⟩) ?_ ?_
          rotate_left
          · intro w'
            go_simp
            with_reducible rfl
          rotate_left
          · simp only [Act.put, List.setIfInBounds_toArray, List.set_cons_zero, List.set_cons_succ]
            rfl
          refine pure_ (i := 7) (N := some 46) (v := ?_) (a' := ?_) #[true, false, true, false, false, true, false, true, false, false, false, false, false, false, false, false, false, false, false, false, false, false, false, false, false, false, false, false, false, false, false] rfl rfl (by kernel_rfl) (fun _ _ _ h => h) (Or.inl ⟨by rfl, ?_⟩) ?_ ?_
          rotate_left
          · intro w'
            go_simp
            with_reducible rfl
          rotate_left
          · simp only [Act.put, List.setIfInBounds_toArray, List.set_cons_zero, List.set_cons_succ]
            rfl
          refine pure_ (i := 11) (N := some 50) (v := ?_) (a' := ?_) #[true, false, true, false, false, true, false, true, false, false, false, true, false, false, false, false, false, false, false, false, false, false, false, false, false, false, false, false, false, false, false] rfl rfl (by kernel_rfl) (fun _ _ _ h => h) (Or.inl ⟨by rfl, ?_⟩) ?_ ?_
          rotate_left
          · intro w'
            go_simp
            with_reducible rfl
          rotate_left
          · simp only [Act.put, List.setIfInBounds_toArray, List.set_cons_zero, List.set_cons_succ]
            rfl
          refine pure_ (i := 13) (N := some 52) (v := ?_) (a' := ?_) #[true, false, true, false, false, true, false, true, false, false, false, true, false, true, false, false, false, false, false, false, false, false, false, false, false, false, false, false, false, false, false] rfl rfl (by kernel_rfl) (fun _ _ _ h => h) (Or.inl ⟨by rfl, ?_⟩) ?_ ?_
          rotate_left
          · intro w'
            go_simp
            with_reducible rfl
          rotate_left
          · simp only [Act.put, List.setIfInBounds_toArray, List.set_cons_zero, List.set_cons_succ]
            rfl
          refine pure_ (i := 16) (N := some 55) (v := ?_) (a' := ?_) #[true, false, true, false, false, true, false, true, false, false, false, true, false, true, false, false, true, false, false, false, false, false, false, false, false, false, false, false, false, false, false] rfl rfl (by kernel_rfl) (fun _ _ _ h => h) (Or.inl ⟨by rfl, ?_⟩) ?_ ?_
          rotate_left
          · intro w'
            go_simp
            with_reducible rfl
          rotate_left
          · simp only [Act.put, List.setIfInBounds_toArray, List.set_cons_zero, List.set_cons_succ]
            rfl
          refine pure_ (i := 18) (N := some 57) (v := ?_) (a' := ?_) #[true, false, true, false, false, true, false, true, false, false, false, true, false, true, false, false, true, false, true, false, false, false, false, false, false, false, false, false, false, false, false] rfl rfl (by kernel_rfl) (fun _ _ _ h => h) (Or.inl ⟨by rfl, ?_⟩) ?_ ?_
          rotate_left
          · intro w'
            go_simp
            with_reducible rfl
          rotate_left
          · simp only [Act.put, List.setIfInBounds_toArray, List.set_cons_zero, List.set_cons_succ]
            rfl
          refine pure_ (i := 21) (N := some 60) (v := ?_) (a' := ?_) #[true, false, true, false, false, true, false, true, false, false, false, true, false, true, false, false, true, false, true, false, false, true, false, false, false, false, false, false, false, false, false] rfl rfl (by kernel_rfl) (fun _ _ _ h => h) (Or.inl ⟨by rfl, ?_⟩) ?_ ?_
          rotate_left
          · intro w'
            go_simp
            with_reducible rfl
          rotate_left
          · simp only [Act.put, List.setIfInBounds_toArray, List.set_cons_zero, List.set_cons_succ]
            rfl
          refine pure_ (i := 23) (N := some 62) (v := ?_) (a' := ?_) #[true, false, true, false, false, true, false, true, false, false, false, true, false, true, false, false, true, false, true, false, false, true, false, true, false, false, false, false, false, false, false] rfl rfl (by kernel_rfl) (fun _ _ _ h => h) (Or.inl ⟨by rfl, ?_⟩) ?_ ?_
          rotate_left
          · intro w'
            go_simp
            with_reducible rfl
          rotate_left
          · simp only [Act.put, List.setIfInBounds_toArray, List.set_cons_zero, List.set_cons_succ]
            rfl
          refine take_ (i := 1) (N := some 40) (v := ?_) (a' := ?_) #[true, true, true, false, false, true, false, true, false, false, false, true, false, true, false, false, true, false, true, false, false, true, false, true, false, false, false, false, false, false, false] rfl rfl (by kernel_rfl) (fun _ _ _ h => h) (Or.inl ⟨by rfl, ?_⟩) hHeld ?_ ?_
          rotate_left
          · intro w' s0
            have s1 := (cells_of s0.2).2.1
            go_simp
            with_reducible rfl
          rotate_left
          · simp only [Act.put, List.setIfInBounds_toArray, List.set_cons_zero, List.set_cons_succ]
            rfl
          refine take_ (i := 6) (N := some 45) (v := ?_) (a' := ?_) #[true, true, true, false, false, true, true, true, false, false, false, true, false, true, false, false, true, false, true, false, false, true, false, true, false, false, false, false, false, false, false] rfl rfl (by kernel_rfl) (fun _ _ _ h => h) (Or.inl ⟨by rfl, ?_⟩) hHeld ?_ ?_
          rotate_left
          · intro w' s0
            have s1 := (cells_of s0.2).2.2.1
            go_simp
            with_reducible rfl
          rotate_left
          · simp only [Act.put, List.setIfInBounds_toArray, List.set_cons_zero, List.set_cons_succ]
            rfl
          refine take_ (i := 12) (N := some 51) (v := ?_) (a' := ?_) #[true, true, true, false, false, true, true, true, false, false, false, true, true, true, false, false, true, false, true, false, false, true, false, true, false, false, false, false, false, false, false] rfl rfl (by kernel_rfl) (fun _ _ _ h => h) (Or.inl ⟨by rfl, ?_⟩) hHeld ?_ ?_
          rotate_left
          · intro w' s0
            have s1 := (cells_of s0.2).2.1
            go_simp
            with_reducible rfl
          rotate_left
          · simp only [Act.put, List.setIfInBounds_toArray, List.set_cons_zero, List.set_cons_succ]
            rfl
          refine take_ (i := 17) (N := some 56) (v := ?_) (a' := ?_) #[true, true, true, false, false, true, true, true, false, false, false, true, true, true, false, false, true, true, true, false, false, true, false, true, false, false, false, false, false, false, false] rfl rfl (by kernel_rfl) (fun _ _ _ h => h) (Or.inl ⟨by rfl, ?_⟩) hHeld ?_ ?_
          rotate_left
          · intro w' s0
            have s1 := (cells_of s0.2).2.1
            go_simp
            with_reducible rfl
          rotate_left
          · simp only [Act.put, List.setIfInBounds_toArray, List.set_cons_zero, List.set_cons_succ]
            rfl
          refine take_ (i := 22) (N := some 61) (v := ?_) (a' := ?_) #[true, true, true, false, false, true, true, true, false, false, false, true, true, true, false, false, true, true, true, false, false, true, true, true, false, false, false, false, false, false, false] rfl rfl (by kernel_rfl) (fun _ _ _ h => h) (Or.inl ⟨by rfl, ?_⟩) hHeld ?_ ?_
          rotate_left
          · intro w' s0
            have s1 := (cells_of s0.2).2.2.1
            go_simp
            with_reducible rfl
          rotate_left
          · simp only [Act.put, List.setIfInBounds_toArray, List.set_cons_zero, List.set_cons_succ]
            rfl
          refine pure_ (i := 3) (N := some 42) (v := .slice (some ad) c c1) (a' := ?_) #[true, true, true, true, false, true, true, true, false, false, false, true, true, true, false, false, true, true, true, false, false, true, true, true, false, false, false, false, false, false, false] rfl rfl (by kernel_rfl) (fun _ _ _ h => h) (Or.inl ⟨by rfl, ?_⟩) ?_ ?_
          · intro w'
            exact ex_hi (x := .tmp 40) (y := .tmp 41) und22 size9 rfl rfl rfl (by have := HCC.out; omega)
          rotate_left
          · simp only [Act.put, List.setIfInBounds_toArray, List.set_cons_zero, List.set_cons_succ]
            rfl
          refine pure_ (i := 8) (N := some 47) (v := .slice a2 c c2) (a' := ?_) #[true, true, true, true, false, true, true, true, true, false, false, true, true, true, false, false, true, true, true, false, false, true, true, true, false, false, false, false, false, false, false] rfl rfl (by kernel_rfl) (fun _ _ _ h => h) (Or.inl ⟨by rfl, ?_⟩) ?_ ?_
          · intro w'
            exact ex_hi (x := .tmp 45) (y := .tmp 46) und22 size9 rfl rfl rfl (by have := HCC.out; have := HTL.out; have := HN.out; omega)
          rotate_left
          · simp only [Act.put, List.setIfInBounds_toArray, List.set_cons_zero, List.set_cons_succ]
            rfl
          refine pure_ (i := 14) (N := some 53) (v := ?_) (a' := ?_) #[true, true, true, true, false, true, true, true, true, false, false, true, true, true, true, false, true, true, true, false, false, true, true, true, false, false, false, false, false, false, false] rfl rfl (by kernel_rfl) (fun _ _ _ h => h) (Or.inl ⟨by rfl, ?_⟩) ?_ ?_
          rotate_left
          · intro w'
            go_simp
            with_reducible rfl
          rotate_left
          · simp only [Act.put, List.setIfInBounds_toArray, List.set_cons_zero, List.set_cons_succ]
            rfl
          refine take_ (i := 15) (N := some 54) (v := ?_) (a' := ?_) #[true, true, true, true, false, true, true, true, true, false, false, true, true, true, true, true, true, true, true, false, false, true, true, true, false, false, false, false, false, false, false] rfl rfl (by kernel_rfl) (fun _ _ _ h => h) (Or.inl ⟨by rfl, ?_⟩) hHeld ?_ ?_
          rotate_left
          · intro w' s0
            have s1 := HST.out w' s0.1
            go_simp
            with_reducible rfl
          rotate_left
          · simp only [Act.put, List.setIfInBounds_toArray, List.set_cons_zero, List.set_cons_succ]
            rfl
          refine pure_ (i := 19) (N := some 58) (v := .slice AP (n1 - c) (c1 - c)) (a' := ?_) #[true, true, true, true, false, true, true, true, true, false, false, true, true, true, true, true, true, true, true, true, false, true, true, true, false, false, false, false, false, false, false] rfl rfl (by kernel_rfl) (fun _ _ _ h => h) (Or.inl ⟨by rfl, ?_⟩) ?_ ?_
          · intro w'
            exact ex_lo (x := .tmp 56) (y := .tmp 57) und22 size9 rfl rfl rfl (by have := HCC.out; omega) HAP.out
          rotate_left
          · simp only [Act.put, List.setIfInBounds_toArray, List.set_cons_zero, List.set_cons_succ]
            rfl
          refine pure_ (i := 24) (N := some 63) (v := .slice AQ (n2 - c) (c2 - c)) (a' := ?_) #[true, true, true, true, false, true, true, true, true, false, false, true, true, true, true, true, true, true, true, true, false, true, true, true, true, false, false, false, false, false, false] rfl rfl (by kernel_rfl) (fun _ _ _ h => h) (Or.inl ⟨by rfl, ?_⟩) ?_ ?_
          · intro w'
            exact ex_lo (x := .tmp 61) (y := .tmp 62) und22 size9 rfl rfl rfl (by have := HCC.out; have := HTL.out; have := HN.out; omega) HAQ.out
          rotate_left
          · simp only [Act.put, List.setIfInBounds_toArray, List.set_cons_zero, List.set_cons_succ]
            rfl
          refine one_ (i := 4) (N := some 43) #[true, true, true, true, true, true, true, true, true, false, false, true, true, true, true, true, true, true, true, true, false, true, true, true, true, false, false, false, false, false, false] rfl rfl (by kernel_rfl) (by decide) (fun K hK => ?_)
          refine goes_ Try.func39 (by kernel_rfl) rfl #[.slice (some ad) c c1] (by rfl) rfl rfl (by (try simp only [List.map_toArray, List.map_cons, List.map_nil]); first | done | rfl) ?_
          refine (clone_s _ (some ad) c c1 Kx (by rw [HKx.out]; exact takeC ((HCA.out _ HBa.out).1) (by have := HCC.out; omega)) (by have := HCC.out; have := HTL.out; have := HN.out; have := HL.out; omega)).mono ?_
          rintro e w4 ⟨v4, rfl, h4, h5⟩
          refine ⟨v4, rfl, ?_⟩
          obtain ⟨A4, d4, rfl⟩ := Kd.R_slice h4
          have X4 := Aside0.mk h4
          have hh : Below W.heap.size W w4 ∧ _ := ⟨hHeld.1.trans (h5.mono hHeld.1.size), blk_below hHeld.2 h5⟩
          have HB4' := Aside0.mk (HBa.out.trans (h5.mono HBa.out.size))
          have HQ2w := Aside0.mk (blk_below HQ2w.out h5)
          have HQ4w := Aside0.mk (blk_below HQ4w.out h5)
          clear h4 h5
          refine hK.out _ _ hh (fun hHeld => ?_)
          clear hK K hh
          refine one_ (i := 9) (N := some 48) #[true, true, true, true, true, true, true, true, true, true, false, true, true, true, true, true, true, true, true, true, false, true, true, true, true, false, false, false, false, false, false] rfl rfl (by kernel_rfl) (by decide) (fun K hK => ?_)
          refine goes_ Try.func39 (by kernel_rfl) rfl #[.slice a2 c c2] (by rfl) rfl rfl (by (try simp only [List.map_toArray, List.map_cons, List.map_nil]); first | done | rfl) ?_
          refine (clone_s _ a2 c c2 Vx (by rw [HVx.out]; exact takeC ((HCA.out _ HB4'.out).2.1) (by have := HCC.out; have := HTL.out; have := HN.out; omega)) (by have := HCC.out; have := HTL.out; have := HN.out; have := HL.out; omega)).mono ?_
          rintro e w5 ⟨v5, rfl, h4, h5⟩
          refine ⟨v5, rfl, ?_⟩
          obtain ⟨A5, d5, rfl⟩ := Kd.R_slice h4
          have X5 := Aside0.mk h4
          have X4 := Aside0.mk (X4.out.below h5)
          have hh : Below W.heap.size W w5 ∧ _ := ⟨hHeld.1.trans (h5.mono hHeld.1.size), blk_below hHeld.2 h5⟩
          have HB5' := Aside0.mk (HB4'.out.trans (h5.mono HB4'.out.size))
          have HQ2w := Aside0.mk (blk_below HQ2w.out h5)
          have HQ4w := Aside0.mk (blk_below HQ4w.out h5)
          clear h4 h5
          refine hK.out _ _ hh (fun hHeld => ?_)
          clear hK K hh
          refine pure_ (i := 10) (N := some 49) (v := .agg #[.bool true, .slice A4 Kx.length d4, .slice A5 Vx.length d5, .slice none 0 0]) (a' := ?_) #[true, true, true, true, true, true, true, true, true, true, true, true, true, true, true, true, true, true, true, true, false, true, true, true, true, false, false, false, false, false, false] rfl rfl (by kernel_rfl) (fun _ _ _ h => h) (Or.inl ⟨by rfl, ?_⟩) ?_ ?_
          · intro w'
            go_simp
          rotate_left
          · simp only [Act.put, List.setIfInBounds_toArray, List.set_cons_zero, List.set_cons_succ]
            rfl
          refine one_ (i := 20) (N := some 59) #[true, true, true, true, true, true, true, true, true, true, true, true, true, true, true, true, true, true, true, true, true, true, true, true, true, false, false, false, false, false, false] rfl rfl (by kernel_rfl) (by decide) (fun K hK => ?_)
          refine goes_ Try.func39 (by kernel_rfl) rfl #[.slice AP (n1 - c) (c1 - c)] (by rfl) rfl rfl (by (try simp only [List.map_toArray, List.map_cons, List.map_nil]); first | done | rfl) ?_
          refine (clone_s _ AP (n1 - c) (c1 - c) Ky (by rw [HKy.out]; exact dropC ((HCA.out _ HB5'.out).1) (by have := HCC.out; omega) HCC.out.1 rfl HAP.out) (by have := HCC.out; have := HTL.out; have := HN.out; have := HL.out; omega)).mono ?_
          rintro e w6 ⟨v6, rfl, h4, h5⟩
          refine ⟨v6, rfl, ?_⟩
          obtain ⟨A6, d6, rfl⟩ := Kd.R_slice h4
          have X6 := Aside0.mk h4
          have X4 := Aside0.mk (X4.out.below h5)
          have X5 := Aside0.mk (X5.out.below h5)
          have hh : Below W.heap.size W w6 ∧ _ := ⟨hHeld.1.trans (h5.mono hHeld.1.size), blk_below hHeld.2 h5⟩
          have HB6' := Aside0.mk (HB5'.out.trans (h5.mono HB5'.out.size))
          have HQ2w := Aside0.mk (blk_below HQ2w.out h5)
          have HQ4w := Aside0.mk (blk_below HQ4w.out h5)
          clear h4 h5
          refine hK.out _ _ hh (fun hHeld => ?_)
          clear hK K hh
          refine one_ (i := 25) (N := some 64) #[true, true, true, true, true, true, true, true, true, true, true, true, true, true, true, true, true, true, true, true, true, true, true, true, true, true, false, false, false, false, false] rfl rfl (by kernel_rfl) (by decide) (fun K hK => ?_)
          refine goes_ Try.func39 (by kernel_rfl) rfl #[.slice AQ (n2 - c) (c2 - c)] (by rfl) rfl rfl (by (try simp only [List.map_toArray, List.map_cons, List.map_nil]); first | done | rfl) ?_
          refine (clone_s _ AQ (n2 - c) (c2 - c) Vy (by rw [HVy.out]; exact dropC ((HCA.out _ HB6'.out).2.1) (by have := HCC.out; have := HTL.out; have := HN.out; omega) HCC.out.2.1 rfl HAQ.out) (by have := HCC.out; have := HTL.out; have := HN.out; have := HL.out; omega)).mono ?_
          rintro e w7 ⟨v7, rfl, h4, h5⟩
          refine ⟨v7, rfl, ?_⟩
          obtain ⟨A7, d7, rfl⟩ := Kd.R_slice h4
          have X7 := Aside0.mk h4
          have X4 := Aside0.mk (X4.out.below h5)
          have X5 := Aside0.mk (X5.out.below h5)
          have X6 := Aside0.mk (X6.out.below h5)
          have hh : Below W.heap.size W w7 ∧ _ := ⟨hHeld.1.trans (h5.mono hHeld.1.size), blk_below hHeld.2 h5⟩
          have HB7' := Aside0.mk (HB6'.out.trans (h5.mono HB6'.out.size))
          have HQ2w := Aside0.mk (blk_below HQ2w.out h5)
          have HQ4w := Aside0.mk (blk_below HQ4w.out h5)
          clear h4 h5
          refine hK.out _ _ hh (fun hHeld => ?_)
          clear hK K hh
          refine pure_ (i := 26) (N := some 65) (v := .agg #[.bool true, .slice A6 Ky.length d6, .slice A7 Vy.length d7, .slice none 0 0]) (a' := ?_) #[true, true, true, true, true, true, true, true, true, true, true, true, true, true, true, true, true, true, true, true, true, true, true, true, true, true, true, false, false, false, false] rfl rfl (by kernel_rfl) (fun _ _ _ h => h) (Or.inl ⟨by rfl, ?_⟩) ?_ ?_
          · intro w'
            go_simp
          rotate_left
          · simp only [Act.put, List.setIfInBounds_toArray, List.set_cons_zero, List.set_cons_succ]
            rfl
          have hq2 := HQ2w.out
          have hq4 := HQ4w.out
          obtain ⟨y0, y1, y2, y3⟩ := cells_of hq2
          have f0 := frz_of hq2 0
          have f1 := frz_of hq2 1
          have f2 := frz_of hq2 2
          have f3 := frz_of hq2 3
          obtain ⟨k0, k1, k2, k3⟩ := cells_of hq4
          have u0 := frz_of hq4 0
          have u1 := frz_of hq4 1
          have u2 := frz_of hq4 2
          have u3 := frz_of hq4 3
          refine one_ (i := 27) (N := none) #[true, true, true, true, true, true, true, true, true, true, true, true, true, true, true, true, true, true, true, true, true, true, true, true, true, true, true, true, false, false, false] rfl rfl (by kernel_rfl) (by decide) (fun K hK => ?_)
          refine skip_ rfl rfl (w1 := set4 w7 g2 (.bool true) (.slice A4 Kx.length d4) (.slice A5 Vx.length d5) (.slice none 0 0)) (by first | (go_simp; done) | (go_simp; rfl)) ?_
          refine hK.out _ _ ⟨set4_below hHeld.1 HG2.out _ _ _ _, set4_ne hHeld.2 HN1.out.1 _ _ _ _⟩ (fun hHeld => ?_)
          clear hK K 
          refine pure_ (i := 28) (N := some 3) (v := ?_) (a' := ?_) #[true, true, true, true, true, true, true, true, true, true, true, true, true, true, true, true, true, true, true, true, true, true, true, true, true, true, true, true, true, false, false] rfl rfl (by kernel_rfl) (fun _ _ _ h => h) (Or.inl ⟨by rfl, ?_⟩) ?_ ?_
          rotate_left
          · intro w'
            go_simp
            with_reducible rfl
          rotate_left
          · simp only [Act.put, List.setIfInBounds_toArray, List.set_cons_zero, List.set_cons_succ]
            rfl
          have hA4 := set4_ne hq4 HNE.out (.bool true) (.slice A4 Kx.length d4) (.slice A5 Vx.length d5) (.slice none 0 0)
          obtain ⟨l0, l1, l2, l3⟩ := cells_of hA4
          have r0 := frz_of hA4 0
          have r1 := frz_of hA4 1
          have r2 := frz_of hA4 2
          have r3 := frz_of hA4 3
          refine one_ (i := 29) (N := none) #[true, true, true, true, true, true, true, true, true, true, true, true, true, true, true, true, true, true, true, true, true, true, true, true, true, true, true, true, true, true, false] rfl rfl (by kernel_rfl) (by decide) (fun K hK => ?_)
          refine skip_ rfl rfl (w1 := set4 (set4 w7 g2 (.bool true) (.slice A4 Kx.length d4) (.slice A5 Vx.length d5) (.slice none 0 0)) g4 (.bool true) (.slice A6 Ky.length d6) (.slice A7 Vy.length d7) (.slice none 0 0)) (by first | (go_simp; done) | (go_simp; rfl)) ?_
          refine hK.out _ _ ⟨set4_below hHeld.1 HG4.out _ _ _ _, set4_ne hHeld.2 HN1.out.2 _ _ _ _⟩ (fun hHeld => ?_)
          clear hK K 
          refine pure_ (i := 30) (N := some 5) (v := ?_) (a' := ?_) #[true, true, true, true, true, true, true, true, true, true, true, true, true, true, true, true, true, true, true, true, true, true, true, true, true, true, true, true, true, true, true] rfl rfl (by kernel_rfl) (fun _ _ _ h => h) (Or.inl ⟨by rfl, ?_⟩) ?_ ?_
          rotate_left
          · intro w'
            go_simp
            with_reducible rfl
          rotate_left
          · simp only [Act.put, List.setIfInBounds_toArray, List.set_cons_zero, List.set_cons_succ]
            rfl
          refine done_ (by kernel_rfl) ?_
          have hm : m = true := HM.out.2 ⟨HR.out.1 (by first | rfl | trivial), by rw [← HNN.out]; omega, by rw [← HN.out.1]; unfold keepN; simp; omega⟩
          have hA2 := set4_ne (set4_blk hq2 (.bool true) (.slice A4 Kx.length d4) (.slice A5 Vx.length d5) (.slice none 0 0)) hne' (.bool true) (.slice A6 Ky.length d6) (.slice A7 Vy.length d7) (.slice none 0 0)
          have hA5 := set4_blk hA4 (.bool true) (.slice A6 Ky.length d6) (.slice A7 Vy.length d7) (.slice none 0 0)
          have hle := HB3.out.size
          have e4 := ((X4.out.set4 hq2 (by intro q hq; simp [Kd.string, Kd.scalar] at hq; subst hq; decide) (.bool true) (.slice A4 Kx.length d4) (.slice A5 Vx.length d5) (.slice none 0 0)).set4 hA4 (by intro q hq; simp [Kd.string, Kd.scalar] at hq; subst hq; decide) (.bool true) (.slice A6 Ky.length d6) (.slice A7 Vy.length d7) (.slice none 0 0))
          have e5 := ((X5.out.set4 hq2 (by intro q hq; simp [Kd.string, Kd.scalar] at hq; subst hq; decide) (.bool true) (.slice A4 Kx.length d4) (.slice A5 Vx.length d5) (.slice none 0 0)).set4 hA4 (by intro q hq; simp [Kd.string, Kd.scalar] at hq; subst hq; decide) (.bool true) (.slice A6 Ky.length d6) (.slice A7 Vy.length d7) (.slice none 0 0))
          have e6 := ((X6.out.set4 hq2 (by intro q hq; simp [Kd.string, Kd.scalar] at hq; subst hq; decide) (.bool true) (.slice A4 Kx.length d4) (.slice A5 Vx.length d5) (.slice none 0 0)).set4 hA4 (by intro q hq; simp [Kd.string, Kd.scalar] at hq; subst hq; decide) (.bool true) (.slice A6 Ky.length d6) (.slice A7 Vy.length d7) (.slice none 0 0))
          have e7 := ((X7.out.set4 hq2 (by intro q hq; simp [Kd.string, Kd.scalar] at hq; subst hq; decide) (.bool true) (.slice A4 Kx.length d4) (.slice A5 Vx.length d5) (.slice none 0 0)).set4 hA4 (by intro q hq; simp [Kd.string, Kd.scalar] at hq; subst hq; decide) (.bool true) (.slice A6 Ky.length d6) (.slice A7 Vy.length d7) (.slice none 0 0))
          go_wp2
          refine bodyPost_ret (results_list (rs := [.cell 2 25, .tmp 3, .cell 4 25, .tmp 5]) rfl (by simp) (.cell g2 25 _ (0, 0) _ rfl hA2 Try.underlying25 rfl (by kernel_rfl) (.tmp (.cell g4 25 _ (0, 0) _ rfl hA5 Try.underlying25 rfl (by kernel_rfl) (.tmp .nil))))) rfl ?_
          refine ⟨_, rfl, .inr ⟨hm, c, ⟨A4, d4, A5, d5, none, 0⟩, ⟨A6, d6, A7, d7, none, 0⟩, ?_, ?_, ?_, ?_⟩, set4_below (set4_below HB7'.out HG2.out _ _ _ _) HG4.out _ _ _ _⟩
          · have h := HCU.out
            rw [HM0.out.1, HN.out.1] at h
            exact h
          · show _ = Value.tuple #[.agg #[.bool true, .slice A4 (K.take c).length d4, .slice A5 (V.take c).length d5, .slice none 0 0], .string (K.getD c ByteArray.empty), .agg #[.bool true, .slice A6 (K.drop c).length d6, .slice A7 (V.drop c).length d7, .slice none 0 0], .bool true]
            rw [← HKx.out, ← HVx.out, ← HKy.out, ← HVy.out, ← HKC.out]
            rfl
          · exact ⟨(by show RowR Kd.string 9 W.heap.size _ (.slice A4 (K.take c).length d4) (K.take c); rw [← HKx.out]; exact Kd.R_lower e4 HBa.out.size), (by show RowR Kd.string 9 W.heap.size _ (.slice A5 (V.take c).length d5) (V.take c); rw [← HVx.out]; exact Kd.R_lower e5 HB4'.out.size), Kd.R_nil _ _ _ _ _⟩
          · exact ⟨(by show RowR Kd.string 9 W.heap.size _ (.slice A6 (K.drop c).length d6) (K.drop c); rw [← HKy.out]; exact Kd.R_lower e6 HB5'.out.size), (by show RowR Kd.string 9 W.heap.size _ (.slice A7 (V.drop c).length d7) (V.drop c); rw [← HVy.out]; exact Kd.R_lower e7 HB6'.out.size), Kd.R_nil _ _ _ _ _⟩
end Go.Proofs.Ytbpnkgaomobpkaa.Mrg
