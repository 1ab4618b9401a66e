/- The law NodeSplits, walked by hand. -/
import Derived.Test.YtbpnkgaomobpkaaSplC
import Derived.Test.YtbpnkgaomobpkaaSplD
import Derived.Test.YtbpnkgaomobpkaaSplP
namespace Go.Proofs.Ytbpnkgaomobpkaa.Mrg
open Go.RowKit Go.Proofs.Ytbpnkgaomobpkaa.PNxu Go.Proofs.YtbpnkgaomobpkaaW.PrintWords Go.Proofs.YtbpnkgaomobpkaaW.PrintLast Go.Proofs.YtbpnkgaomobpkaaW.PrintMore Go.Proofs.Ytbpnkgaomobpkaa.Pure
set_option linter.unusedVariables false
set_option linter.unusedSimpArgs false
theorem splR_no {base : Nat} {w : World} {v : Value} {b : Bool} {K V : List ByteArray} {D : List Int} (h : SplR base w v false b K V D) : v = .tuple #[.agg #[.bool false, .slice none 0 0, .slice none 0 0, .slice none 0 0], .string ⟨#[]⟩, .agg #[.bool false, .slice none 0 0, .slice none 0 0, .slice none 0 0], .bool false] := by
  rcases h with ⟨_, h⟩ | ⟨h, _⟩
  · exact h
  · exact absurd h (by decide)
/-- The parts, named. -/
structure Parts (b : Bool) (K V : List ByteArray) (D : List Int) (c : Nat) (Kx Vx : List ByteArray) (Dx : List Int) (Ky Vy : List ByteArray) (Dy : List Int) (kc : ByteArray) : Prop where
  cut : IsCut b K V (K.length - keepN b) c
  kx : Kx = K.take c
  vx : Vx = xV b V c
  dx : Dx = xD b D c
  ky : Ky = yK b K c
  vy : Vy = yV b V c
  dy : Dy = yD b D c
  key : kc = K.getD c ByteArray.empty
theorem splR_yes {base : Nat} {w : World} {v : Value} {b : Bool} {K V : List ByteArray} {D : List Int} (h : SplR base w v true b K V D) : ∃ (c : Nat) (p q : At) (Kx Vx : List ByteArray) (Dx : List Int) (Ky Vy : List ByteArray) (Dy : List Int) (kc : ByteArray), Parts b K V D c Kx Vx Dx Ky Vy Dy kc ∧
    v = .tuple #[.agg #[.bool b, .slice p.a1 Kx.length p.c1, .slice p.a2 Vx.length p.c2, .slice p.a3 Dx.length p.c3], .string kc, .agg #[.bool b, .slice q.a1 Ky.length q.c1, .slice q.a2 Vy.length q.c2, .slice q.a3 Dy.length q.c3], .bool true] ∧ BkR base w p Kx Vx Dx ∧ BkR base w q Ky Vy Dy := by
  rcases h with ⟨h, _⟩ | ⟨_, c, p, q, hc, hv, hp, hq⟩
  · exact absurd h (by decide)
  · exact ⟨c, p, q, _, _, _, _, _, _, _, ⟨hc, rfl, rfl, rfl, rfl, rfl, rfl, rfl⟩, hv, hp, hq⟩
theorem parts_one {b : Bool} {K V : List ByteArray} {D : List Int} {c c' : Nat} {Kx Vx Kx' Vx' Ky Vy Ky' Vy' : List ByteArray} {Dx Dx' Dy Dy' : List Int} {kc kc' : ByteArray} (hK : Small K) (hV : Small V) (h : Parts b K V D c Kx Vx Dx Ky Vy Dy kc) (h' : Parts b K V D c' Kx' Vx' Dx' Ky' Vy' Dy' kc') :
    Kx' = Kx ∧ Vx' = Vx ∧ Dx' = Dx ∧ Ky' = Ky ∧ Vy' = Vy ∧ Dy' = Dy ∧ kc' = kc := by
  have hc : c' = c := cut_one hK hV h'.cut h.cut
  subst hc
  exact ⟨h'.kx.trans h.kx.symm, h'.vx.trans h.vx.symm, h'.dx.trans h.dx.symm, h'.ky.trans h.ky.symm, h'.vy.trans h.vy.symm, h'.dy.trans h.dy.symm, h'.key.trans h.key.symm⟩
set_option maxHeartbeats 8000000 in
set_option maxRecDepth 100000 in
theorem splits_calls (W : World) (p1 : At) (b : Bool) (K V : List ByteArray) (D : List Int) (h1 : Bk W p1 b K V D) :
    Calls Try.prog 5 #[.agg #[.bool b, .slice p1.a1 K.length p1.c1, .slice p1.a2 V.length p1.c2, .slice p1.a3 D.length p1.c3]] W fun e w' => e = .returned (.bool true) ∧ Below W.heap.size W w' := by
  obtain ⟨r1, hs1, hr1⟩ := few_c (b := b) (K := K) (V := V) (D := D)
  obtain ⟨m, hm⟩ := is_bool (SplitP b K V D)
  have HM := Aside0.mk hm
  have HC1 := Aside0.mk (fun (w : World) (hB : Below W.heap.size W w) => hr1 w p1 (h1.below hB))
  have HSM := Aside0.mk hs1
  have HK1 := Aside0.mk h1
  clear hm hr1 hs1 h1
  obtain ⟨a1, c1, a2, c2, a3, c3⟩ := p1
  dsimp only at HC1 ⊢
  go_enter Try.func5, Try.ntmps5
  go_upto_region 1 with fail
  obtain ⟨w0, hw0⟩ : ∃ w0, w0 = W.alloc (.cells #[.bool b, .slice a1 K.length c1, .slice a2 V.length c2, .slice a3 D.length c3] 25) := ⟨_, rfl⟩
  have q1 := blk_new W (.cells #[.bool b, .slice a1 K.length c1, .slice a2 V.length c2, .slice a3 D.length c3] 25 (0, 0))
  have hB0 : Below W.heap.size W w0 := by rw [hw0]; exact below_alloc (Below.refl _ _) _
  have q1' : w0.heap[W.heap.size]? = some (.cells #[.bool b, .slice a1 K.length c1, .slice a2 V.length c2, .slice a3 D.length c3] 25 (0, 0)) := by rw [hw0]; exact q1
  rw [← hw0]
  clear hw0 q1
  obtain ⟨g1, hg1⟩ : ∃ g, g = W.heap.size := ⟨_, rfl⟩
  rw [← hg1] at q1' ⊢
  clear hg1
  obtain ⟨x0, x1, x2, x3⟩ := cells_of q1'
  have HQ1 := Aside0.mk q1'
  have HB0 := Aside0.mk hB0
  clear q1' hB0
  cases r1 with
  | false =>
    go_wp2_with (first
      | (go_at_call 8; refine (HC1.out w0 HB0.out).mono ?_; rintro e w1 ⟨rfl, h1⟩; have HB1 := Aside0.mk (HB0.out.trans (h1.mono HB0.out.size)); clear h1)
      | (go_at_call 10; refine (lives_c w1).mono ?_; rintro e w9 ⟨rfl, h1⟩; have HB9 := Aside0.mk (HB1.out.trans (h1.mono HB1.out.size)); clear h1))
    go_ret
    exact ⟨rfl, HB9.out⟩
  | true =>
    have hs := HSM.out rfl
    have HLL := Aside0.mk (show K.length ≤ 300 ∧ V.length ≤ 300 ∧ D.length ≤ 300 by omega)
    have HS := Aside0.mk (And.intro hs.1 hs.2.1)
    clear hs
    go_upto_region 3 with (go_at_call 8; refine (HC1.out w0 HB0.out).mono ?_; rintro e w1 ⟨rfl, h1⟩; have HB1 := Aside0.mk (HB0.out.trans (h1.mono HB0.out.size)); have hq1 := blk_below HQ1.out h1; have HQ1a := Aside0.mk hq1; obtain ⟨z0, z1, z2, z3⟩ := cells_of hq1; clear h1 hq1)
    cases m with
    | false =>
      go_upto_region 4 with (first
        | (go_at_call 18; refine (own_c (HK1.out.below HB1.out) (by have := HLL.out; omega)).mono ?_; rintro e w2 ⟨v2, rfl, ⟨pa, rfl, h3⟩, h4⟩; have HBk := Aside0.mk h3; have HB2 := Aside0.mk (HB1.out.trans (h4.mono HB1.out.size)); have HQ1b := Aside0.mk (blk_below HQ1a.out h4); clear h3 h4)
        | (go_at_call 17; refine (node_split w2 pa b K V D HBk.out HLL.out false HM.out).mono ?_; rintro e w3 ⟨v3, rfl, h3, h4⟩; obtain rfl := splR_no h3; have HB3 := Aside0.mk (HB2.out.trans (h4.mono HB2.out.size)); have hq1 := blk_below HQ1b.out h4; have HQ1c := Aside0.mk hq1; obtain ⟨s0, s1, s2, s3⟩ := cells_of hq1; clear h3 h4 hq1))
      have hbx := boxes2 w3 (.cells #[.bool false, .slice none 0 0, .slice none 0 0, .slice none 0 0] 25) (.cells #[.bool false, .slice none 0 0, .slice none 0 0, .slice none 0 0] 25)
      generalize (w3.alloc (.cells #[.bool false, .slice none 0 0, .slice none 0 0, .slice none 0 0] 25)).alloc (.cells #[.bool false, .slice none 0 0, .slice none 0 0, .slice none 0 0] 25) = w4 at hbx ⊢
      obtain ⟨q3, q5, hb4⟩ := hbx
      have hq1 := blk_below HQ1c.out hb4
      obtain ⟨t0, t1, t2, t3⟩ := cells_of hq1
      have HB4 := Aside0.mk (HB3.out.trans (hb4.mono HB3.out.size))
      obtain ⟨g3, hg3⟩ : ∃ g, g = w3.heap.size := ⟨_, rfl⟩
      rw [← hg3] at q3 q5 ⊢
      have HQ3 := Aside0.mk q3
      have HQ5 := Aside0.mk q5
      clear q3 q5 hb4 hq1 hg3
      go_upto_region 5 with (go_at_call 19; refine (ref_split w4 ⟨a1, c1, a2, c2, a3, c3⟩ b K V D (HK1.out.below HB4.out) HLL.out false HM.out).mono ?_; rintro e w5 ⟨v5, rfl, h3, h4⟩; obtain rfl := splR_no h3; have HB5 := Aside0.mk (HB4.out.trans (h4.mono HB4.out.size)); have HQ3a := Aside0.mk (blk_below HQ3.out h4); have HQ5a := Aside0.mk (blk_below HQ5.out h4); clear h3 h4)
      have hbx := boxes2 w5 (.cells #[.bool false, .slice none 0 0, .slice none 0 0, .slice none 0 0] 25) (.cells #[.bool false, .slice none 0 0, .slice none 0 0, .slice none 0 0] 25)
      generalize (w5.alloc (.cells #[.bool false, .slice none 0 0, .slice none 0 0, .slice none 0 0] 25)).alloc (.cells #[.bool false, .slice none 0 0, .slice none 0 0, .slice none 0 0] 25) = w6 at hbx ⊢
      obtain ⟨q7, q9, hb6⟩ := hbx
      have HB6 := Aside0.mk (HB5.out.trans (hb6.mono HB5.out.size))
      have q3 := blk_below HQ3a.out hb6
      have q5 := blk_below HQ5a.out hb6
      obtain ⟨g7, hg7⟩ : ∃ g, g = w5.heap.size := ⟨_, rfl⟩
      rw [← hg7] at q7 q9 ⊢
      obtain ⟨i0, i1, i2, i3⟩ := cells_of q3
      obtain ⟨k0, k1, k2, k3⟩ := cells_of q7
      have HQ5b := Aside0.mk q5
      have HQ9b := Aside0.mk q9
      clear q3 q5 q7 q9 hb6 hg7
      go_wp2_with (first
        | (go_at_call 15; first
          | (refine (same_c (Bk.none w7 false) (Bk.none w7 false) ⟨by simp, by simp, by simp⟩).mono ?_; rintro e w8 ⟨rfl, h1⟩; have HB8 := Aside0.mk (HB7.out.trans (h1.mono HB7.out.size)); clear h1)
          | (refine (same_c (Bk.none w6 false) (Bk.none w6 false) ⟨by simp, by simp, by simp⟩).mono ?_; rintro e w7 ⟨rfl, h1⟩; have HB7 := Aside0.mk (HB6.out.trans (h1.mono HB6.out.size)); obtain ⟨l0, l1, l2, l3⟩ := cells_of (blk_below HQ5b.out h1); obtain ⟨m0, m1, m2, m3⟩ := cells_of (blk_below HQ9b.out h1); clear h1))
        | (go_at_call 10; refine (lives_c w8).mono ?_; rintro e w9 ⟨rfl, h1⟩; have HB9 := Aside0.mk (HB8.out.trans (h1.mono HB8.out.size)); clear h1))
      go_ret
      exact ⟨rfl, HB9.out⟩
    | true =>
      go_upto_region 4 with (first
        | (go_at_call 18; refine (own_c (HK1.out.below HB1.out) (by have := HLL.out; omega)).mono ?_; rintro e w2 ⟨v2, rfl, ⟨pa, rfl, h3⟩, h4⟩; have HBk := Aside0.mk h3; have HB2 := Aside0.mk (HB1.out.trans (h4.mono HB1.out.size)); have HQ1b := Aside0.mk (blk_below HQ1a.out h4); clear h3 h4)
        | (go_at_call 17; refine (node_split w2 pa b K V D HBk.out HLL.out true (by first | exact HM.out | exact ⟨fun _ => HM.out.1 trivial, fun _ => rfl⟩)).mono ?_; rintro e w3 ⟨v3, rfl, h3, h4⟩; obtain ⟨c, p, q, Kx, Vx, Dx, Ky, Vy, Dy, kc, hpt, rfl, hp, hq⟩ := splR_yes h3; have HPT := Aside0.mk hpt; have HP := Aside0.mk hp; have HQ := Aside0.mk hq; have HB3 := Aside0.mk (HB2.out.trans (h4.mono HB2.out.size)); have hq1 := blk_below HQ1b.out h4; have HQ1c := Aside0.mk hq1; obtain ⟨s0, s1, s2, s3⟩ := cells_of hq1; clear h3 h4 hq1 hpt hp hq))
      have hbx := boxes2 w3 (.cells #[.bool b, .slice p.a1 Kx.length p.c1, .slice p.a2 Vx.length p.c2, .slice p.a3 Dx.length p.c3] 25) (.cells #[.bool b, .slice q.a1 Ky.length q.c1, .slice q.a2 Vy.length q.c2, .slice q.a3 Dy.length q.c3] 25)
      generalize (w3.alloc (.cells #[.bool b, .slice p.a1 Kx.length p.c1, .slice p.a2 Vx.length p.c2, .slice p.a3 Dx.length p.c3] 25)).alloc (.cells #[.bool b, .slice q.a1 Ky.length q.c1, .slice q.a2 Vy.length q.c2, .slice q.a3 Dy.length q.c3] 25) = w4 at hbx ⊢
      obtain ⟨q3, q5, hb4⟩ := hbx
      have hq1 := blk_below HQ1c.out hb4
      obtain ⟨t0, t1, t2, t3⟩ := cells_of hq1
      have HB4 := Aside0.mk (HB3.out.trans (hb4.mono HB3.out.size))
      have HPa := Aside0.mk (HP.out.below hb4)
      have HQa := Aside0.mk (HQ.out.below hb4)
      have HQ1d := Aside0.mk hq1
      obtain ⟨g3, hg3⟩ : ∃ g, g = w3.heap.size := ⟨_, rfl⟩
      rw [← hg3] at q3 q5 ⊢
      have HQ3 := Aside0.mk q3
      have HQ5 := Aside0.mk q5
      clear q3 q5 hb4 hq1 hg3
      go_upto_region 5 with (go_at_call 19; refine (ref_split w4 ⟨a1, c1, a2, c2, a3, c3⟩ b K V D (HK1.out.below HB4.out) HLL.out true (by first | exact HM.out | exact ⟨fun _ => HM.out.1 trivial, fun _ => rfl⟩)).mono ?_; rintro e w5 ⟨v5, rfl, h3, h4⟩; obtain ⟨c', p', q', Kx', Vx', Dx', Ky', Vy', Dy', kc', hpt, rfl, hp, hq⟩ := splR_yes h3; obtain ⟨rfl, rfl, rfl, rfl, rfl, rfl, rfl⟩ := parts_one HS.out.1 HS.out.2 HPT.out hpt; have HP' := Aside0.mk hp; have HQ' := Aside0.mk hq; have HB5 := Aside0.mk (HB4.out.trans (h4.mono HB4.out.size)); have HQ1e := Aside0.mk (blk_below HQ1d.out h4); have HQ3a := Aside0.mk (blk_below HQ3.out h4); have HQ5a := Aside0.mk (blk_below HQ5.out h4); have HPb := Aside0.mk (HPa.out.below h4); have HQb := Aside0.mk (HQa.out.below h4); clear h3 h4 hpt hp hq)
      have hbx := boxes2 w5 (.cells #[.bool b, .slice p'.a1 Kx'.length p'.c1, .slice p'.a2 Vx'.length p'.c2, .slice p'.a3 Dx'.length p'.c3] 25) (.cells #[.bool b, .slice q'.a1 Ky'.length q'.c1, .slice q'.a2 Vy'.length q'.c2, .slice q'.a3 Dy'.length q'.c3] 25)
      generalize (w5.alloc (.cells #[.bool b, .slice p'.a1 Kx'.length p'.c1, .slice p'.a2 Vx'.length p'.c2, .slice p'.a3 Dx'.length p'.c3] 25)).alloc (.cells #[.bool b, .slice q'.a1 Ky'.length q'.c1, .slice q'.a2 Vy'.length q'.c2, .slice q'.a3 Dy'.length q'.c3] 25) = w6 at hbx ⊢
      obtain ⟨q7, q9, hb6⟩ := hbx
      have HB6 := Aside0.mk (HB5.out.trans (hb6.mono HB5.out.size))
      have HQ1f := Aside0.mk (blk_below HQ1e.out hb6)
      have q3 := blk_below HQ3a.out hb6
      have q5 := blk_below HQ5a.out hb6
      have HPc := Aside0.mk (HPb.out.below hb6)
      have HQc := Aside0.mk (HQb.out.below hb6)
      have HPd := Aside0.mk (HP'.out.below hb6)
      have HQd := Aside0.mk (HQ'.out.below hb6)
      obtain ⟨g7, hg7⟩ : ∃ g, g = w5.heap.size := ⟨_, rfl⟩
      rw [← hg7] at q7 q9 ⊢
      obtain ⟨i0, i1, i2, i3⟩ := cells_of q3
      obtain ⟨k0, k1, k2, k3⟩ := cells_of q7
      have HQ3b := Aside0.mk q3
      have HQ5b := Aside0.mk q5
      have HQ9b := Aside0.mk q9
      have HLN := Aside0.mk (show (Kx'.length ≤ 1000 ∧ Vx'.length ≤ 1000 ∧ Dx'.length ≤ 1000) ∧ (Ky'.length ≤ 1000 ∧ Vy'.length ≤ 1000 ∧ Dy'.length ≤ 1000) by
        have h := HLL.out
        have e := HPT.out
        rw [e.kx, e.vx, e.dx, e.ky, e.vy, e.dy]
        unfold xV xD yK yV yD
        cases b <;> simp <;> omega)
      clear q3 q5 q7 q9 hb6 hg7
      go_upto_region 9 with (go_at_call 15; first
          | (refine (same_c ((HQc.out.below h67).bk b) ((HQd.out.below h67).bk b) (by have := HLN.out; omega)).mono ?_; rintro e w8 ⟨rfl, h1⟩; have HB8 := Aside0.mk (HB7.out.trans (h1.mono HB7.out.size)); have H78 := Aside0.mk h1; clear h1)
          | (refine (same_c (HPc.out.bk b) (HPd.out.bk b) (by have := HLN.out; omega)).mono ?_; rintro e w7 ⟨rfl, h67⟩; have HB7 := Aside0.mk (HB6.out.trans (h67.mono HB6.out.size)); obtain ⟨l0, l1, l2, l3⟩ := cells_of (blk_below HQ5b.out h67); obtain ⟨m0, m1, m2, m3⟩ := cells_of (blk_below HQ9b.out h67)))
      have hcl : c < K.length := by have h1 := HPT.out.cut.1; have h2 := (HM.out.1 trivial).2.2; unfold keepN at h1 h2; cases b <;> simp at h1 h2 <;> omega
      have hcx : CanP b Kx' Vx' Dx' := by have h := can_x (HM.out.1 trivial).1 hcl; have e := HPT.out; rw [e.kx, e.vx, e.dx]; exact h
      have hcy : CanP b Ky' Vy' Dy' := by have h := can_y (HM.out.1 trivial).1 hcl; have e := HPT.out; rw [e.ky, e.vy, e.dy]; exact h
      have HCX := Aside0.mk hcx
      have HCY := Aside0.mk hcy
      have hsm := small_can hcx (by have := HLN.out; omega) (by have := HLN.out; omega)
      have hnd : needTo b Kx' Vx' Kx'.length ≤ 509 := by
        have e := HPT.out
        have h := need_take b K V c c (Nat.le_refl _)
        rw [← e.kx, ← e.vx] at h
        have h2 : Kx'.length = c := by rw [e.kx, List.length_take]; omega
        rw [h2, h]
        exact e.cut.2.1
      have HKA := Aside0.mk (show Kx' ++ (btw b kc' ++ Ky') = K by have e := HPT.out; rw [e.kx, e.ky, e.key]; exact keys_all b K c hcl)
      obtain ⟨N, hN⟩ : ∃ N, N = needTo b Kx' Vx' Kx'.length := ⟨_, rfl⟩
      have hnx := fun (w : World) (hB : Below w6.heap.size w6 w) => rneed_c ((HPc.out.below hB).bk b) hsm.1 hsm.2.1 Kx'.length (Nat.le_refl _)
      rw [← hN] at hnd hnx
      have HNX := Aside0.mk hnx
      have e509 : decide (509 < N) = false := decide_eq_false (by omega)
      have HB68 := Aside0.mk (h67.trans (H78.out.mono h67.size))
      clear hcx hcy hsm hnx hN hcl hnd h67
      obtain ⟨r0, r1, r2, r3⟩ := cells_of (blk_below HQ3b.out HB68.out)
      go_upto_region 11 with (first
        | (go_at_call 20; refine (HNX.out w10 HB610.out).mono ?_; rintro e w11 ⟨rfl, h1⟩; have HB11 := Aside0.mk (HB10.out.trans (h1.mono HB10.out.size)); have HB611 := Aside0.mk (HB610.out.trans (h1.mono HB610.out.size)); obtain ⟨f0, f1, f2, f3⟩ := cells_of (blk_below HQ3b.out HB611.out); clear h1)
        | (go_at_call 9; first
          | (refine (rcan_c ((HQc.out.below HB69.out).bk b) (by have := HLN.out; omega) true ⟨fun _ => HCY.out, fun _ => rfl⟩).mono ?_; rintro e w10 ⟨rfl, h1⟩; have HB10 := Aside0.mk (HB9.out.trans (h1.mono HB9.out.size)); have HB610 := Aside0.mk (HB69.out.trans (h1.mono HB69.out.size)); obtain ⟨o0, o1, o2, o3⟩ := cells_of (blk_below HQ3b.out HB610.out); clear h1)
          | (refine (rcan_c ((HPc.out.below HB68.out).bk b) (by have := HLN.out; omega) true ⟨fun _ => HCX.out, fun _ => rfl⟩).mono ?_; rintro e w9 ⟨rfl, h1⟩; have HB9 := Aside0.mk (HB8.out.trans (h1.mono HB8.out.size)); have HB69 := Aside0.mk (HB68.out.trans (h1.mono HB68.out.size)); obtain ⟨n0, n1, n2, n3⟩ := cells_of (blk_below HQ5b.out HB69.out); clear h1)))
      have info9 : (Try.prog.info? 9).map (fun i => (i.zero, i.size, i.bytes)) = some (some (.string ⟨#[]⟩), 1, 16) := by kernel_rfl
      have INF9 := Aside0.mk info9
      clear info9
      go_upto_region 12 with (first
        | ((with_reducible refine gate_dst (N := 70) rfl ?_); refine Kd.R_lit Kd.string (w0 := w11) w11.heap.size 9 ?hg (N := 70) ?hd (xs := ([] : List ByteArray)) (inner := []) (ok := tt) (okp := tt) ?hr ?hp (fun _ hk => hk) trivial (Below.refl _ _) (Nat.le_refl _) (by simp) ?_; (case hd => rfl); (case hg => rfl); (case hr => first | (go_simp; done) | (go_simp; rfl)); (case hp => exact (Reps.none _ _)); intro v12 w12 ho hb hg_ hnew_; clear hg_ hnew_; have HO := Aside0.mk ho; have HW12 := Aside0.mk hb; obtain ⟨lz0, lz1, lz2, lz3⟩ := cells_of (blk_below HQ3b.out (HB611.out.trans (hb.mono HB611.out.size))); clear hb ho)
        | ((with_reducible refine gate_dst (N := 73) rfl ?_); at_builtin; refine Kd.R_append_rows Kd.string (w0 := w11) w11.heap.size rfl (.tmp 70) (.tmp 72) 22 9 (.string ⟨#[]⟩) 16 rfl Try.underlying22 INF9.out rfl (by decide) (by decide) v12 [] Kx' p.a1 Kx'.length p.c1 tt (fun _ => False) rfl rfl HO.out (((HPc.out.below (HB611.out.trans (HW12.out.mono HB611.out.size))).bk b).k) (fun _ _ h => h) (fun _ h => h.elim) (fun _ _ => trivial) HW12.out HW12.out.size ?hl ?_; (case hl => have := HLN.out; simp; omega); intro v13 w13 ho hb hG hat; have hr := (show RowS Kd.string 9 w11.heap.size w13 v13 Kx' from rowS_s ho); obtain ⟨A13, c13, rfl⟩ := Kd.R_slice hr; have HR13 := Aside0.mk hr; have HW13 := Aside0.mk hb; obtain ⟨ly0, ly1, ly2, ly3⟩ := cells_of (blk_below HQ1f.out (HB611.out.trans (hb.mono HB611.out.size))); clear ho hr hb hG hat))
      cases b with
      | true =>
        go_upto_region 14 with fail
        obtain ⟨wN, hwN⟩ : ∃ w, w = w13 := ⟨_, rfl⟩
        obtain ⟨AN, hAN⟩ : ∃ A, A = A13 := ⟨_, rfl⟩
        obtain ⟨cN, hcN⟩ : ∃ c, c = c13 := ⟨_, rfl⟩
        obtain ⟨KN, hKN⟩ : ∃ k, k = Kx' := ⟨_, rfl⟩
        obtain ⟨nN, hnN⟩ : ∃ n, n = Kx'.length := ⟨_, rfl⟩
        have hrn := HR13.out
        rw [← hwN, ← hAN, ← hcN, ← hKN] at hrn
        have HRN := Aside0.mk (show RowS Kd.string 9 w11.heap.size wN (.slice AN nN cN) KN by rw [hnN, ← hKN]; exact hrn)
        have HWN := Aside0.mk (by rw [hwN]; exact HW13.out : Below w11.heap.size w11 wN)
        have HKN := Aside0.mk (show KN ++ Ky' = K ∧ KN.length ≤ 1000 by rw [hKN]; exact ⟨HKA.out, HLN.out.1.1⟩)
        rw [← hwN, ← hAN, ← hcN, ← hnN]
        clear hwN hAN hcN hKN hnN hrn HR13 HW13
        have hdr : Below wN.heap.size wN wN.drew := below_drew (Below.refl _ _)
        have HH := HWN.out.trans (hdr.mono HWN.out.size)
        have hRd := RowS.below HRN.out hdr
        refine start_ (n := 11) (S := fun w' => Below w11.heap.size w11 w') (ds := []) #[false, false, false, false, false, false, false, false, false, false, false] (by kernel_rfl) rfl rfl HH (fun hHeld => ?_)
        generalize wN.drew = wD at hdr HH hRd hHeld ⊢
        refine pure_ (i := 0) (N := some 81) (v := ?_) (a' := ?_) #[true, false, false, false, false, false, false, false, false, false, false] rfl rfl (by kernel_rfl) (fun _ _ _ h => h) (Or.inl ⟨by rfl, ?_⟩) ?_ ?_
        rotate_left
        · intro w'
          go_simp
          with_reducible rfl
        rotate_left
        · simp only [Act.put, List.setIfInBounds_toArray, List.set_cons_zero, List.set_cons_succ]
          rfl
        refine pure_ (i := 1) (N := some 82) (v := ?_) (a' := ?_) #[true, true, false, false, false, false, false, false, false, false, false] rfl rfl (by kernel_rfl) (fun _ _ _ h => h) (Or.inl ⟨by rfl, ?_⟩) ?_ ?_
        rotate_left
        · intro w'
          go_simp
          with_reducible rfl
        rotate_left
        · simp only [Act.put, List.setIfInBounds_toArray, List.set_cons_zero, List.set_cons_succ]
          rfl
        refine take_ (i := 2) (N := some 83) (v := ?_) (a' := ?_) #[true, true, true, false, false, false, false, false, false, false, false] rfl rfl (by kernel_rfl) (fun _ _ _ h => h) (Or.inl ⟨by rfl, ?_⟩) hHeld ?_ ?_
        rotate_left
        · intro w' s0
          obtain ⟨z0, z1, z2, z3⟩ := cells_of (blk_below HQ5b.out (HB611.out.trans (s0.mono HB611.out.size)))
          go_simp
          with_reducible rfl
        rotate_left
        · simp only [Act.put, List.setIfInBounds_toArray, List.set_cons_zero, List.set_cons_succ]
          rfl
        refine pure_ (i := 4) (N := some 85) (v := ?_) (a' := ?_) #[true, true, true, false, true, false, false, false, false, false, false] rfl rfl (by kernel_rfl) (fun _ _ _ h => h) (Or.inl ⟨by rfl, ?_⟩) ?_ ?_
        rotate_left
        · intro w'
          go_simp
          with_reducible rfl
        rotate_left
        · simp only [Act.put, List.setIfInBounds_toArray, List.set_cons_zero, List.set_cons_succ]
          rfl
        refine take_ (i := 5) (N := some 86) (v := ?_) (a' := ?_) #[true, true, true, false, true, true, false, false, false, false, false] rfl rfl (by kernel_rfl) (fun _ _ _ h => h) (Or.inl ⟨by rfl, ?_⟩) hHeld ?_ ?_
        rotate_left
        · intro w' s0
          obtain ⟨z0, z1, z2, z3⟩ := cells_of (blk_below HQ1f.out (HB611.out.trans (s0.mono HB611.out.size)))
          go_simp
          with_reducible rfl
        rotate_left
        · simp only [Act.put, List.setIfInBounds_toArray, List.set_cons_zero, List.set_cons_succ]
          rfl
        refine one_ (i := 3) (N := some 84) #[true, true, true, true, true, true, false, false, false, false, false] rfl rfl (by kernel_rfl) (by decide) (fun K1 hK => ?_)
        refine Kd.R_append_rows_step Kd.string (w0 := w11) w11.heap.size (by rfl) (.tmp 81) (.tmp 83) 22 9 (.string ⟨#[]⟩) 16 rfl Try.underlying22 INF9.out rfl (by decide) (by decide) (.slice AN nN cN) KN Ky' q.a1 Ky'.length q.c1 tt (fun _ => False) rfl rfl (RowS.tt hRd) (((HQc.out.below (HB611.out.trans (HH.mono HB611.out.size))).bk true).k) (fun _ _ h => h) (fun _ h => h.elim) (fun _ _ => trivial) HH HH.size ?hl ?_
        case hl => have := HLN.out; have := HKN.out.2; simp; omega
        intro v14 w14 ho hb hG hat
        have hr : RowS Kd.string 9 w11.heap.size w14 v14 K := by have h := rowS_s ho; rw [HKN.out.1] at h; exact h
        obtain ⟨A14, c14, e14⟩ := Kd.R_slice hr
        subst e14
        have X14 := Aside0.mk hr
        have HB14 := Aside0.mk hb
        clear ho hG hat hr hb
        show K1 (Act.put _ (some 84) _) _
        simp only [Act.put, List.setIfInBounds_toArray, List.set_cons_zero, List.set_cons_succ]
        refine hK.out _ _ HB14.out (fun hHeld => ?_)
        clear hK K1 
        have hr := RowS.tt X14.out
        have hc := (HK1.out.below HB11.out).below HB14.out
        have hS := (same_s K (by have := HLL.out; omega)).rounds
        obtain ⟨kS, hS⟩ := hS
        refine one_ (i := 6) (N := some 87) #[true, true, true, true, true, true, true, false, false, false, false] rfl rfl (by kernel_rfl) (by decide) (fun K1 hK => ?_)
        refine goes_ Try.func21 (by kernel_rfl) rfl #[.slice A14 K.length c14, .slice a1 K.length c1] (by rfl) rfl rfl (by (try simp only [List.map_toArray, List.map_cons, List.map_nil]); first | done | rfl) ?_
        refine (aukletref02_Same.calls kS A14 c14 K a1 c1 K true w14 (Kd.R_reads' hr).2.2 (Kd.R_reads' hr).2.1 hc.k hc.kc hS).mono ?_
        rintro e w15 ⟨rfl, hb⟩
        have hb := hb.below
        have HB15 := Aside0.mk (HB14.out.trans (hb.mono HB14.out.size))
        refine ⟨.bool true, rfl, ?_⟩
        refine hK.out _ _ HB15.out (fun hHeld => ?_)
        clear hK K1 hb
        refine pure_ (i := 7) (N := some 88) (v := ?_) (a' := ?_) #[true, true, true, true, true, true, true, true, false, false, false] rfl rfl (by kernel_rfl) (fun _ _ _ h => h) (Or.inl ⟨by rfl, ?_⟩) ?_ ?_
        rotate_left
        · intro w'
          go_simp
          with_reducible rfl
        rotate_left
        · simp only [Act.put, List.setIfInBounds_toArray, List.set_cons_zero, List.set_cons_succ]
          rfl
        refine one_ (i := 8) (N := some 89) #[true, true, true, true, true, true, true, true, true, false, false] rfl rfl (by kernel_rfl) (by decide) (fun K1 hK => ?_)
        refine goes_ Try.func10 (by kernel_rfl) rfl #[] (by rfl) rfl rfl (by (try simp only [List.map_toArray, List.map_cons, List.map_nil]); first | done | rfl) ?_
        refine (lives_c w15).mono ?_
        rintro e w16 ⟨rfl, hb⟩
        have HB16 := Aside0.mk (HB15.out.trans (hb.mono HB15.out.size))
        refine ⟨.bool true, rfl, ?_⟩
        refine hK.out _ _ HB16.out (fun hHeld => ?_)
        clear hK K1 hb
        refine pure_ (i := 9) (N := some 90) (v := ?_) (a' := ?_) #[true, true, true, true, true, true, true, true, true, true, false] rfl rfl (by kernel_rfl) (fun _ _ _ h => h) (Or.inl ⟨by rfl, ?_⟩) ?_ ?_
        rotate_left
        · intro w'
          go_simp
          with_reducible rfl
        rotate_left
        · simp only [Act.put, List.setIfInBounds_toArray, List.set_cons_zero, List.set_cons_succ]
          rfl
        refine pure_ (i := 10) (N := some 2) (v := ?_) (a' := ?_) #[true, true, true, true, true, true, true, true, true, true, true] rfl rfl (by kernel_rfl) (fun _ _ _ h => h) (Or.inl ⟨by rfl, ?_⟩) ?_ ?_
        rotate_left
        · intro w'
          go_simp
          with_reducible rfl
        rotate_left
        · simp only [Act.put, List.setIfInBounds_toArray, List.set_cons_zero, List.set_cons_succ]
          rfl
        refine done_ (by kernel_rfl) ?_
        go_wp2
        go_ret
        exact ⟨rfl, HB11.out.trans (HB16.out.mono HB11.out.size)⟩
      | false =>
        have HKY := Aside0.mk (strC (key := kc') (blk_new w13 (.cells #[.string kc'] 9 (0, 0))))
        have hbal : Below w13.heap.size w13 (w13.alloc (.cells #[.string kc'] 9)) := below_alloc (Below.refl _ _) _
        have HRA := Aside0.mk (RowS.below HR13.out hbal)
        have HWA := Aside0.mk (HW13.out.trans (hbal.mono HW13.out.size))
        clear hbal
        go_upto_region 14 with (first
          | ((with_reducible refine gate_dst (N := 80) rfl ?_); at_builtin; refine Kd.R_append_rows Kd.string (w0 := w11) w11.heap.size rfl (.tmp 77) (.tmp 79) 22 9 (.string ⟨#[]⟩) 16 rfl Try.underlying22 INF9.out rfl (by decide) (by decide) (.slice A13 Kx'.length c13) Kx' [kc'] (some ⟨w13.heap.size, 0, none⟩) 1 1 tt (fun _ => False) rfl rfl (RowS.tt HRA.out) HKY.out (fun _ _ h => h) (fun _ h => h.elim) (fun _ _ => trivial) HWA.out HWA.out.size ?hl ?_; (case hl => have := HLN.out; simp; omega); intro vN wN ho hb hG hat; obtain ⟨KN, hKN⟩ : ∃ k, k = Kx' ++ [kc'] := ⟨_, rfl⟩; rw [← hKN] at ho; obtain ⟨AN, cN, rfl⟩ := Kd.R_slice ho; have HRN := Aside0.mk (show RowS Kd.string 9 w11.heap.size wN (.slice AN KN.length cN) KN from rowS_s ho); have HWN := Aside0.mk hb; have HKN := Aside0.mk (show KN ++ Ky' = K ∧ KN.length ≤ 2000 by rw [hKN]; refine ⟨by rw [List.append_assoc]; exact HKA.out, by have := HLN.out; simp; omega⟩); clear ho hb hG hat hKN))
        obtain ⟨nN, hnN⟩ : ∃ n, n = KN.length := ⟨_, rfl⟩
        rw [← hnN] at HRN ⊢
        clear hnN
        have hdr : Below wN.heap.size wN wN.drew := below_drew (Below.refl _ _)
        have HH := HWN.out.trans (hdr.mono HWN.out.size)
        have hRd := RowS.below HRN.out hdr
        refine start_ (n := 11) (S := fun w' => Below w11.heap.size w11 w') (ds := []) #[false, false, false, false, false, false, false, false, false, false, false] (by kernel_rfl) rfl rfl HH (fun hHeld => ?_)
        generalize wN.drew = wD at hdr HH hRd hHeld ⊢
        refine pure_ (i := 0) (N := some 81) (v := ?_) (a' := ?_) #[true, false, false, false, false, false, false, false, false, false, false] rfl rfl (by kernel_rfl) (fun _ _ _ h => h) (Or.inl ⟨by rfl, ?_⟩) ?_ ?_
        rotate_left
        · intro w'
          go_simp
          with_reducible rfl
        rotate_left
        · simp only [Act.put, List.setIfInBounds_toArray, List.set_cons_zero, List.set_cons_succ]
          rfl
        refine pure_ (i := 1) (N := some 82) (v := ?_) (a' := ?_) #[true, true, false, false, false, false, false, false, false, false, false] rfl rfl (by kernel_rfl) (fun _ _ _ h => h) (Or.inl ⟨by rfl, ?_⟩) ?_ ?_
        rotate_left
        · intro w'
          go_simp
          with_reducible rfl
        rotate_left
        · simp only [Act.put, List.setIfInBounds_toArray, List.set_cons_zero, List.set_cons_succ]
          rfl
        refine take_ (i := 2) (N := some 83) (v := ?_) (a' := ?_) #[true, true, true, false, false, false, false, false, false, false, false] rfl rfl (by kernel_rfl) (fun _ _ _ h => h) (Or.inl ⟨by rfl, ?_⟩) hHeld ?_ ?_
        rotate_left
        · intro w' s0
          obtain ⟨z0, z1, z2, z3⟩ := cells_of (blk_below HQ5b.out (HB611.out.trans (s0.mono HB611.out.size)))
          go_simp
          with_reducible rfl
        rotate_left
        · simp only [Act.put, List.setIfInBounds_toArray, List.set_cons_zero, List.set_cons_succ]
          rfl
        refine pure_ (i := 4) (N := some 85) (v := ?_) (a' := ?_) #[true, true, true, false, true, false, false, false, false, false, false] rfl rfl (by kernel_rfl) (fun _ _ _ h => h) (Or.inl ⟨by rfl, ?_⟩) ?_ ?_
        rotate_left
        · intro w'
          go_simp
          with_reducible rfl
        rotate_left
        · simp only [Act.put, List.setIfInBounds_toArray, List.set_cons_zero, List.set_cons_succ]
          rfl
        refine take_ (i := 5) (N := some 86) (v := ?_) (a' := ?_) #[true, true, true, false, true, true, false, false, false, false, false] rfl rfl (by kernel_rfl) (fun _ _ _ h => h) (Or.inl ⟨by rfl, ?_⟩) hHeld ?_ ?_
        rotate_left
        · intro w' s0
          obtain ⟨z0, z1, z2, z3⟩ := cells_of (blk_below HQ1f.out (HB611.out.trans (s0.mono HB611.out.size)))
          go_simp
          with_reducible rfl
        rotate_left
        · simp only [Act.put, List.setIfInBounds_toArray, List.set_cons_zero, List.set_cons_succ]
          rfl
        refine one_ (i := 3) (N := some 84) #[true, true, true, true, true, true, false, false, false, false, false] rfl rfl (by kernel_rfl) (by decide) (fun K1 hK => ?_)
        refine Kd.R_append_rows_step Kd.string (w0 := w11) w11.heap.size (by rfl) (.tmp 81) (.tmp 83) 22 9 (.string ⟨#[]⟩) 16 rfl Try.underlying22 INF9.out rfl (by decide) (by decide) (.slice AN nN cN) KN Ky' q.a1 Ky'.length q.c1 tt (fun _ => False) rfl rfl (RowS.tt hRd) (((HQc.out.below (HB611.out.trans (HH.mono HB611.out.size))).bk false).k) (fun _ _ h => h) (fun _ h => h.elim) (fun _ _ => trivial) HH HH.size ?hl ?_
        case hl => have := HLN.out; have := HKN.out.2; simp; omega
        intro v14 w14 ho hb hG hat
        have hr : RowS Kd.string 9 w11.heap.size w14 v14 K := by have h := rowS_s ho; rw [HKN.out.1] at h; exact h
        obtain ⟨A14, c14, e14⟩ := Kd.R_slice hr
        subst e14
        have X14 := Aside0.mk hr
        have HB14 := Aside0.mk hb
        clear ho hG hat hr hb
        show K1 (Act.put _ (some 84) _) _
        simp only [Act.put, List.setIfInBounds_toArray, List.set_cons_zero, List.set_cons_succ]
        refine hK.out _ _ HB14.out (fun hHeld => ?_)
        clear hK K1 
        have hr := RowS.tt X14.out
        have hc := (HK1.out.below HB11.out).below HB14.out
        have hS := (same_s K (by have := HLL.out; omega)).rounds
        obtain ⟨kS, hS⟩ := hS
        refine one_ (i := 6) (N := some 87) #[true, true, true, true, true, true, true, false, false, false, false] rfl rfl (by kernel_rfl) (by decide) (fun K1 hK => ?_)
        refine goes_ Try.func21 (by kernel_rfl) rfl #[.slice A14 K.length c14, .slice a1 K.length c1] (by rfl) rfl rfl (by (try simp only [List.map_toArray, List.map_cons, List.map_nil]); first | done | rfl) ?_
        refine (aukletref02_Same.calls kS A14 c14 K a1 c1 K true w14 (Kd.R_reads' hr).2.2 (Kd.R_reads' hr).2.1 hc.k hc.kc hS).mono ?_
        rintro e w15 ⟨rfl, hb⟩
        have hb := hb.below
        have HB15 := Aside0.mk (HB14.out.trans (hb.mono HB14.out.size))
        refine ⟨.bool true, rfl, ?_⟩
        refine hK.out _ _ HB15.out (fun hHeld => ?_)
        clear hK K1 hb
        refine pure_ (i := 7) (N := some 88) (v := ?_) (a' := ?_) #[true, true, true, true, true, true, true, true, false, false, false] rfl rfl (by kernel_rfl) (fun _ _ _ h => h) (Or.inl ⟨by rfl, ?_⟩) ?_ ?_
        rotate_left
        · intro w'
          go_simp
          with_reducible rfl
        rotate_left
        · simp only [Act.put, List.setIfInBounds_toArray, List.set_cons_zero, List.set_cons_succ]
          rfl
        refine one_ (i := 8) (N := some 89) #[true, true, true, true, true, true, true, true, true, false, false] rfl rfl (by kernel_rfl) (by decide) (fun K1 hK => ?_)
        refine goes_ Try.func10 (by kernel_rfl) rfl #[] (by rfl) rfl rfl (by (try simp only [List.map_toArray, List.map_cons, List.map_nil]); first | done | rfl) ?_
        refine (lives_c w15).mono ?_
        rintro e w16 ⟨rfl, hb⟩
        have HB16 := Aside0.mk (HB15.out.trans (hb.mono HB15.out.size))
        refine ⟨.bool true, rfl, ?_⟩
        refine hK.out _ _ HB16.out (fun hHeld => ?_)
        clear hK K1 hb
        refine pure_ (i := 9) (N := some 90) (v := ?_) (a' := ?_) #[true, true, true, true, true, true, true, true, true, true, false] rfl rfl (by kernel_rfl) (fun _ _ _ h => h) (Or.inl ⟨by rfl, ?_⟩) ?_ ?_
        rotate_left
        · intro w'
          go_simp
          with_reducible rfl
        rotate_left
        · simp only [Act.put, List.setIfInBounds_toArray, List.set_cons_zero, List.set_cons_succ]
          rfl
        refine pure_ (i := 10) (N := some 2) (v := ?_) (a' := ?_) #[true, true, true, true, true, true, true, true, true, true, true] rfl rfl (by kernel_rfl) (fun _ _ _ h => h) (Or.inl ⟨by rfl, ?_⟩) ?_ ?_
        rotate_left
        · intro w'
          go_simp
          with_reducible rfl
        rotate_left
        · simp only [Act.put, List.setIfInBounds_toArray, List.set_cons_zero, List.set_cons_succ]
          rfl
        refine done_ (by kernel_rfl) ?_
        go_wp2
        go_ret
        exact ⟨rfl, HB11.out.trans (HB16.out.mono HB11.out.size)⟩
end Go.Proofs.Ytbpnkgaomobpkaa.Mrg
