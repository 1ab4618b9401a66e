/- The document's Merge, walked by hand (written by mkmrgc.py). -/
import Derived.Test.YtbpnkgaomobpkaaMrgC
namespace Go.Proofs.Ytbpnkgaomobpkaa.Mrg
open Go.RowKit Go.Proofs.Ytbpnkgaomobpkaa.PNxu Go.Proofs.YtbpnkgaomobpkaaW.PrintWords Go.Proofs.YtbpnkgaomobpkaaW.PrintLast Go.Proofs.YtbpnkgaomobpkaaW.PrintMore Go.Proofs.Ytbpnkgaomobpkaa.Pure
set_option linter.unusedVariables false
set_option linter.unusedSimpArgs false
set_option maxHeartbeats 8000000 in
set_option maxRecDepth 100000 in
theorem ref_merge (W : World) (p1 p2 : At) (b1 b2 : Bool) (K1 V1 K2 V2 : List ByteArray) (D1 D2 : List Int) (key : ByteArray) (h1 : Bk W p1 b1 K1 V1 D1) (h2 : Bk W p2 b2 K2 V2 D2)
    (l1 : K1.length ≤ 300 ∧ V1.length ≤ 300 ∧ D1.length ≤ 300) (l2 : K2.length ≤ 300 ∧ V2.length ≤ 300 ∧ D2.length ≤ 300) (m : Bool) (hm : m = true ↔ MergeP b1 K1 V1 D1 key b2 K2 V2 D2) :
    Calls Try.prog 23 #[.agg #[.bool b1, .slice p1.a1 K1.length p1.c1, .slice p1.a2 V1.length p1.c2, .slice p1.a3 D1.length p1.c3], .string key, .agg #[.bool b2, .slice p2.a1 K2.length p2.c1, .slice p2.a2 V2.length p2.c2, .slice p2.a3 D2.length p2.c3]] W fun e w' =>
      ∃ p : At, e = .returned (.tuple #[.agg #[.bool (m && b1), .slice p.a1 (resL m (outK b1 K1 key K2)).length p.c1, .slice p.a2 (resL m (V1 ++ V2)).length p.c2, .slice p.a3 (resL m (D1 ++ D2)).length p.c3], .bool m]) ∧
        BkR W.heap.size w' p (resL m (outK b1 K1 key K2)) (resL m (V1 ++ V2)) (resL m (D1 ++ D2)) ∧ Below W.heap.size W w' := by
  obtain ⟨r1, hr1⟩ := is_bool (CanP b1 K1 V1 D1)
  obtain ⟨r2, hr2⟩ := is_bool (CanP b2 K2 V2 D2)
  have HC1 := Aside0.mk (fun (w : World) (hB : Below W.heap.size W w) => rcan_c (h1.below hB) ⟨by omega, by omega, by omega⟩ r1 hr1)
  have HC2 := Aside0.mk (fun (w : World) (hB : Below W.heap.size W w) => rcan_c (h2.below hB) ⟨by omega, by omega, by omega⟩ r2 hr2)
  have HM := Aside0.mk hm
  have HR := Aside0.mk (And.intro hr1 hr2)
  have HL := Aside0.mk (And.intro l1 l2)
  have HK1 := Aside0.mk h1
  have HK2 := Aside0.mk h2
  clear hm hr1 hr2 l1 l2 h1 h2
  obtain ⟨a1, c1, a2, c2, a3, c3⟩ := p1
  obtain ⟨a4, c4, a5, c5, a6, c6⟩ := p2
  dsimp only at HC1 HC2 ⊢
  obtain ⟨n1, hn1⟩ : ∃ n, n = K1.length := ⟨_, rfl⟩
  obtain ⟨n2, hn2⟩ : ∃ n, n = V1.length := ⟨_, rfl⟩
  obtain ⟨n3, hn3⟩ : ∃ n, n = D1.length := ⟨_, rfl⟩
  obtain ⟨n4, hn4⟩ : ∃ n, n = K2.length := ⟨_, rfl⟩
  obtain ⟨n5, hn5⟩ : ∃ n, n = V2.length := ⟨_, rfl⟩
  obtain ⟨n6, hn6⟩ : ∃ n, n = D2.length := ⟨_, rfl⟩
  rw [← hn1, ← hn2, ← hn3] at HC1
  rw [← hn4, ← hn5, ← hn6] at HC2
  rw [← hn1, ← hn2, ← hn3, ← hn4, ← hn5, ← hn6]
  have HN := Aside0.mk (And.intro hn1 (And.intro hn2 (And.intro hn3 (And.intro hn4 (And.intro hn5 hn6)))))
  clear hn1 hn2 hn3 hn4 hn5 hn6
  go_enter Try.func23, Try.ntmps23
  go_upto_region 1 with fail
  obtain ⟨w0, hw0⟩ : ∃ w0, w0 = ((W.alloc (.cells #[.bool b1, .slice a1 n1 c1, .slice a2 n2 c2, .slice a3 n3 c3] 25)).alloc (.cells #[.bool b2, .slice a4 n4 c4, .slice a5 n5 c5, .slice a6 n6 c6] 25)).alloc (.cells #[.bool false, .slice none 0 0, .slice none 0 0, .slice none 0 0] 25) := ⟨_, rfl⟩
  have hbx := boxes3 W (.cells #[.bool b1, .slice a1 n1 c1, .slice a2 n2 c2, .slice a3 n3 c3] 25) (.cells #[.bool b2, .slice a4 n4 c4, .slice a5 n5 c5, .slice a6 n6 c6] 25) (.cells #[.bool false, .slice none 0 0, .slice none 0 0, .slice none 0 0] 25)
  rw [← hw0] at hbx ⊢
  clear hw0
  obtain ⟨g3, hg3⟩ : ∃ g, g = W.heap.size := ⟨_, rfl⟩
  rw [← hg3] at hbx ⊢
  obtain ⟨g5, hg5⟩ : ∃ g, g = g3 + 1 := ⟨_, rfl⟩
  rw [← hg5] at hbx ⊢
  obtain ⟨g6, hg6⟩ : ∃ g, g = g5 + 1 := ⟨_, rfl⟩
  rw [← hg6] at hbx ⊢
  obtain ⟨q3, q5, q6, hB0, hsz⟩ := hbx
  have HG := Aside0.mk (And.intro hg3 (And.intro hg5 hg6))
  obtain ⟨x0, x1, x2, x3⟩ := cells_of q3
  have HQ3 := Aside0.mk q3
  have HQ5 := Aside0.mk q5
  have HQ6 := Aside0.mk q6
  rw [hg3] at hB0
  have HB0 := Aside0.mk hB0
  have HS0 := Aside0.mk hsz
  have HG6 := Aside0.mk (show W.heap.size ≤ g6 by omega)
  clear q3 q5 q6 hB0 hsz hg3 hg5 hg6
  cases r1 with
  | false =>
    go_wp2_with (first
      | (go_at_call 9; refine (HC1.out w0 HB0.out).mono ?_; rintro e w1 ⟨rfl, h1⟩; have HB1 := Aside0.mk (HB0.out.trans (h1.mono HB0.out.size)); have hq6 := blk_below HQ6.out h1; obtain ⟨y0, y1, y2, y3⟩ := cells_of hq6; have f0 := frz_of hq6 0; have f1 := frz_of hq6 1; have f2 := frz_of hq6 2; have f3 := frz_of hq6 3; have HQ6' := Aside0.mk hq6; clear h1 hq6))
    have hm : m = false := by
      cases m with
      | false => rfl
      | true => exact absurd (HR.out.1.2 (HM.out.1 rfl).1) (by decide)
    subst hm
    refine bodyPost_ret (results_ct rfl _ _ g6 25 #[.bool false, .slice none 0 0, .slice none 0 0, .slice none 0 0] (0, 0) _ rfl (set4_blk HQ6'.out _ _ _ _) Try.underlying25 rfl (by kernel_rfl)) rfl ?_
    exact ⟨p0, rfl, BkR.none _ _, set4_below HB1.out HG6.out _ _ _ _⟩
  | true =>
   cases r2 with
   | false =>
    go_wp2_with (first
      | (go_at_call 9; first
        | (refine (HC2.out w1 HB1.out).mono ?_; rintro e w3 ⟨rfl, h1⟩; have HB3 := Aside0.mk (HB1.out.trans (h1.mono HB1.out.size)); have hq3 := blk_below HQ3a.out h1; have hq5 := blk_below HQ5a.out h1; have hq6 := blk_below HQ6a.out h1; obtain ⟨z0, z1, z2, z3⟩ := cells_of hq3; obtain ⟨t0, t1, t2, t3⟩ := cells_of hq5; obtain ⟨y0, y1, y2, y3⟩ := cells_of hq6; have f0 := frz_of hq6 0; have f1 := frz_of hq6 1; have f2 := frz_of hq6 2; have f3 := frz_of hq6 3; have HQ3c := Aside0.mk hq3; have HQ5c := Aside0.mk hq5; have HQ6c := Aside0.mk hq6; clear h1 hq3 hq5 hq6)
        | (refine (HC1.out w0 HB0.out).mono ?_; rintro e w1 ⟨rfl, h1⟩; have HB1 := Aside0.mk (HB0.out.trans (h1.mono HB0.out.size)); have hq3 := blk_below HQ3.out h1; have hq5 := blk_below HQ5.out h1; have hq6 := blk_below HQ6.out h1; obtain ⟨s0, s1, s2, s3⟩ := cells_of hq5; have HQ3a := Aside0.mk hq3; have HQ5a := Aside0.mk hq5; have HQ6a := Aside0.mk hq6; clear h1 hq3 hq5 hq6)))
    have hm : m = false := by
      cases m with
      | false => rfl
      | true => exact absurd (HR.out.2.2 (HM.out.1 rfl).2.1) (by decide)
    subst hm
    refine bodyPost_ret (results_ct rfl _ _ g6 25 #[.bool false, .slice none 0 0, .slice none 0 0, .slice none 0 0] (0, 0) _ rfl (set4_blk HQ6c.out _ _ _ _) Try.underlying25 rfl (by kernel_rfl)) rfl ?_
    exact ⟨p0, rfl, BkR.none _ _, set4_below HB3.out HG6.out _ _ _ _⟩
   | true =>
    cases b1 with
    | false =>
     cases b2 with
     | false =>
      go_upto_region 3 with (first
        | (go_at_call 9; first
              | (refine (HC2.out w1 HB1.out).mono ?_; rintro e w3 ⟨rfl, h1⟩; have HB3 := Aside0.mk (HB1.out.trans (h1.mono HB1.out.size)); have hq3 := blk_below HQ3a.out h1; have hq5 := blk_below HQ5a.out h1; have hq6 := blk_below HQ6a.out h1; obtain ⟨z0, z1, z2, z3⟩ := cells_of hq3; obtain ⟨t0, t1, t2, t3⟩ := cells_of hq5; obtain ⟨y0, y1, y2, y3⟩ := cells_of hq6; have f0 := frz_of hq6 0; have f1 := frz_of hq6 1; have f2 := frz_of hq6 2; have f3 := frz_of hq6 3; have HQ3c := Aside0.mk hq3; have HQ5c := Aside0.mk hq5; have HQ6c := Aside0.mk hq6; clear h1 hq3 hq5 hq6)
              | (refine (HC1.out w0 HB0.out).mono ?_; rintro e w1 ⟨rfl, h1⟩; have HB1 := Aside0.mk (HB0.out.trans (h1.mono HB0.out.size)); have hq3 := blk_below HQ3.out h1; have hq5 := blk_below HQ5.out h1; have hq6 := blk_below HQ6.out h1; obtain ⟨s0, s1, s2, s3⟩ := cells_of hq5; have HQ3a := Aside0.mk hq3; have HQ5a := Aside0.mk hq5; have HQ6a := Aside0.mk hq6; clear h1 hq3 hq5 hq6)))
      have info9 : (Try.prog.info? 9).map (fun i => (i.zero, i.size, i.bytes)) = some (some (.string ⟨#[]⟩), 1, 16) := by kernel_rfl
      have info3 : (Try.prog.info? 3).map (fun i => (i.zero, i.size, i.bytes)) = some (some (.int .i64 0), 1, 8) := by kernel_rfl
      have INF9 := Aside0.mk info9
      have INF3 := Aside0.mk info3
      have HCA := Aside0.mk (show ∀ w, Below W.heap.size W w → Kd.C Kd.string w a1 n1 K1 ∧ Kd.C Kd.string w a2 n2 V1 ∧ Kd.C (Kd.int .i64) w a3 n3 D1 from fun w hw => by
        have h := HK1.out.below hw
        have hn := HN.out
        rw [hn.1, hn.2.1, hn.2.2.1]
        exact ⟨h.k, h.v, h.d⟩)
      have HCB := Aside0.mk (show ∀ w, Below W.heap.size W w → Kd.C Kd.string w a4 n4 K2 ∧ Kd.C Kd.string w a5 n5 V2 ∧ Kd.C (Kd.int .i64) w a6 n6 D2 from fun w hw => by
        have h := HK2.out.below hw
        have hn := HN.out
        rw [hn.2.2.2.1, hn.2.2.2.2.1, hn.2.2.2.2.2]
        exact ⟨h.k, h.v, h.d⟩)
      clear info9 info3 z0 z1 z2 z3 t0 t1 t2 t3 y0 y1 y2 y3 f0 f1 f2 f3 s0 s1 s2 s3 x0 x1 x2 x3
      have hdr : Below w3.heap.size w3 w3.drew := below_drew (Below.refl _ _)
      refine start_ (n := 23) (S := fun w' => Below w3.heap.size w3 w') (ds := []) #[false, false, false, false, false, false, false, false, false, false, false, false, false, false, false, false, false, false, false, false, false, false, false] (by kernel_rfl) rfl rfl hdr (fun hHeld => ?_)
      refine pure_ (i := 0) (N := some 25) (v := ?_) (a' := ?_) #[true, false, false, false, false, false, false, false, false, false, false, false, false, false, false, false, false, false, false, false, false, false, false] rfl rfl (by kernel_rfl) (fun _ _ _ h => h) (Or.inl ⟨by rfl, ?_⟩) ?_ ?_
      rotate_left
      · intro w'
        go_simp
        with_reducible rfl
      rotate_left
      · simp only [Act.put, List.setIfInBounds_toArray, List.set_cons_zero, List.set_cons_succ]
        rfl
      refine pure_ (i := 3) (N := some 28) (v := ?_) (a' := ?_) #[true, false, false, true, false, false, false, false, false, false, false, false, false, false, false, false, false, false, false, false, false, false, false] rfl rfl (by kernel_rfl) (fun _ _ _ h => h) (Or.inl ⟨by rfl, ?_⟩) ?_ ?_
      rotate_left
      · intro w'
        go_simp
        with_reducible rfl
      rotate_left
      · simp only [Act.put, List.setIfInBounds_toArray, List.set_cons_zero, List.set_cons_succ]
        rfl
      refine pure_ (i := 7) (N := some 32) (v := ?_) (a' := ?_) #[true, false, false, true, false, false, false, true, false, false, false, false, false, false, false, false, false, false, false, false, false, false, false] rfl rfl (by kernel_rfl) (fun _ _ _ h => h) (Or.inl ⟨by rfl, ?_⟩) ?_ ?_
      rotate_left
      · intro w'
        go_simp
        with_reducible rfl
      rotate_left
      · simp only [Act.put, List.setIfInBounds_toArray, List.set_cons_zero, List.set_cons_succ]
        rfl
      refine pure_ (i := 10) (N := some 35) (v := ?_) (a' := ?_) #[true, false, false, true, false, false, false, true, false, false, true, false, false, false, false, false, false, false, false, false, false, false, false] rfl rfl (by kernel_rfl) (fun _ _ _ h => h) (Or.inl ⟨by rfl, ?_⟩) ?_ ?_
      rotate_left
      · intro w'
        go_simp
        with_reducible rfl
      rotate_left
      · simp only [Act.put, List.setIfInBounds_toArray, List.set_cons_zero, List.set_cons_succ]
        rfl
      refine pure_ (i := 14) (N := some 39) (v := ?_) (a' := ?_) #[true, false, false, true, false, false, false, true, false, false, true, false, false, false, true, false, false, false, false, false, false, false, false] rfl rfl (by kernel_rfl) (fun _ _ _ h => h) (Or.inl ⟨by rfl, ?_⟩) ?_ ?_
      rotate_left
      · intro w'
        go_simp
        with_reducible rfl
      rotate_left
      · simp only [Act.put, List.setIfInBounds_toArray, List.set_cons_zero, List.set_cons_succ]
        rfl
      refine pure_ (i := 17) (N := some 42) (v := ?_) (a' := ?_) #[true, false, false, true, false, false, false, true, false, false, true, false, false, false, true, false, false, true, false, false, false, false, false] rfl rfl (by kernel_rfl) (fun _ _ _ h => h) (Or.inl ⟨by rfl, ?_⟩) ?_ ?_
      rotate_left
      · intro w'
        go_simp
        with_reducible rfl
      rotate_left
      · simp only [Act.put, List.setIfInBounds_toArray, List.set_cons_zero, List.set_cons_succ]
        rfl
      refine take_ (i := 1) (N := some 26) (v := ?_) (a' := ?_) #[true, true, false, true, false, false, false, true, false, false, true, false, false, false, true, false, false, true, false, false, false, false, false] rfl rfl (by kernel_rfl) (fun _ _ _ h => h) (Or.inl ⟨by rfl, ?_⟩) hHeld ?_ ?_
      rotate_left
      · intro w' s0
        have s1 := (cells_of (blk_below HQ3c.out s0)).1
        go_simp
        with_reducible rfl
      rotate_left
      · simp only [Act.put, List.setIfInBounds_toArray, List.set_cons_zero, List.set_cons_succ]
        rfl
      refine take_ (i := 4) (N := some 29) (v := ?_) (a' := ?_) #[true, true, false, true, true, false, false, true, false, false, true, false, false, false, true, false, false, true, false, false, false, false, false] rfl rfl (by kernel_rfl) (fun _ _ _ h => h) (Or.inl ⟨by rfl, ?_⟩) hHeld ?_ ?_
      rotate_left
      · intro w' s0
        have s1 := (cells_of (blk_below HQ3c.out s0)).2.1
        go_simp
        with_reducible rfl
      rotate_left
      · simp only [Act.put, List.setIfInBounds_toArray, List.set_cons_zero, List.set_cons_succ]
        rfl
      refine take_ (i := 8) (N := some 33) (v := ?_) (a' := ?_) #[true, true, false, true, true, false, false, true, true, false, true, false, false, false, true, false, false, true, false, false, false, false, false] rfl rfl (by kernel_rfl) (fun _ _ _ h => h) (Or.inl ⟨by rfl, ?_⟩) hHeld ?_ ?_
      rotate_left
      · intro w' s0
        have s1 := (cells_of (blk_below HQ3c.out s0)).2.2.1
        go_simp
        with_reducible rfl
      rotate_left
      · simp only [Act.put, List.setIfInBounds_toArray, List.set_cons_zero, List.set_cons_succ]
        rfl
      refine take_ (i := 11) (N := some 36) (v := ?_) (a' := ?_) #[true, true, false, true, true, false, false, true, true, false, true, true, false, false, true, false, false, true, false, false, false, false, false] rfl rfl (by kernel_rfl) (fun _ _ _ h => h) (Or.inl ⟨by rfl, ?_⟩) hHeld ?_ ?_
      rotate_left
      · intro w' s0
        have s1 := (cells_of (blk_below HQ5c.out s0)).2.2.1
        go_simp
        with_reducible rfl
      rotate_left
      · simp only [Act.put, List.setIfInBounds_toArray, List.set_cons_zero, List.set_cons_succ]
        rfl
      refine take_ (i := 15) (N := some 40) (v := ?_) (a' := ?_) #[true, true, false, true, true, false, false, true, true, false, true, true, false, false, true, true, false, true, false, false, false, false, false] rfl rfl (by kernel_rfl) (fun _ _ _ h => h) (Or.inl ⟨by rfl, ?_⟩) hHeld ?_ ?_
      rotate_left
      · intro w' s0
        have s1 := (cells_of (blk_below HQ3c.out s0)).2.2.2
        go_simp
        with_reducible rfl
      rotate_left
      · simp only [Act.put, List.setIfInBounds_toArray, List.set_cons_zero, List.set_cons_succ]
        rfl
      refine take_ (i := 18) (N := some 43) (v := ?_) (a' := ?_) #[true, true, false, true, true, false, false, true, true, false, true, true, false, false, true, true, false, true, true, false, false, false, false] rfl rfl (by kernel_rfl) (fun _ _ _ h => h) (Or.inl ⟨by rfl, ?_⟩) hHeld ?_ ?_
      rotate_left
      · intro w' s0
        have s1 := (cells_of (blk_below HQ5c.out s0)).2.2.2
        go_simp
        with_reducible rfl
      rotate_left
      · simp only [Act.put, List.setIfInBounds_toArray, List.set_cons_zero, List.set_cons_succ]
        rfl
      refine lattice3 (l0 := #[true, true, false, true, true, false, false, true, true, false, true, true, false, false, true, true, false, true, true, false, false, false, false]) [2, 5, 6, 9, 12, 13, 16, 19, 21, 20] [[false, false, false, false, false, false, false, false, false, false], [true, false, false, false, false, false, false, false, false, false], [true, true, false, false, false, false, false, false, false, false], [false, false, true, false, false, false, false, false, false, false], [true, false, true, false, false, false, false, false, false, false], [true, true, true, false, false, false, false, false, false, false], [true, true, true, true, false, false, false, false, false, false], [true, true, true, true, true, false, false, false, false, false], [false, false, false, false, false, true, false, false, false, false], [true, false, false, false, false, true, false, false, false, false], [true, true, false, false, false, true, false, false, false, false], [false, false, true, false, false, true, false, false, false, false], [true, false, true, false, false, true, false, false, false, false], [true, true, true, false, false, true, false, false, false, false], [true, true, true, true, false, true, false, false, false, false], [true, true, true, true, true, true, false, false, false, false], [true, true, true, true, true, true, true, false, false, false], [true, true, true, true, true, true, true, true, false, false], [false, false, false, false, false, false, false, false, true, false], [true, false, false, false, false, false, false, false, true, false], [true, true, false, false, false, false, false, false, true, false], [false, false, true, false, false, false, false, false, true, false], [true, false, true, false, false, false, false, false, true, false], [true, true, true, false, false, false, false, false, true, false], [true, true, true, true, false, false, false, false, true, false], [true, true, true, true, true, false, false, false, true, false], [false, false, false, false, false, true, false, false, true, false], [true, false, false, false, false, true, false, false, true, false], [true, true, false, false, false, true, false, false, true, false], [false, false, true, false, false, true, false, false, true, false], [true, false, true, false, false, true, false, false, true, false], [true, true, true, false, false, true, false, false, true, false], [true, true, true, true, false, true, false, false, true, false], [true, true, true, true, true, true, false, false, true, false], [true, true, true, true, true, true, true, false, true, false], [true, true, true, true, true, true, true, true, true, false], [true, true, true, true, true, true, true, true, false, true], [true, true, true, true, true, true, true, true, true, true]] [27, 30, 31, 34, 37, 38, 41, 44, 8, 45] (by kernel_rfl) (by kernel_rfl) (by decide) (by kernel_rfl) (by kernel_rfl) (by kernel_rfl) (fun d xs w' => ∃ x0 x1 x2 x3 x4 x5 x6 x7 x8 x9, xs = [x0, x1, x2, x3, x4, x5, x6, x7, x8, x9] ∧ (d.getD 0 false = true → d.getD 1 true = false → RowS Kd.string 9 w3.heap.size w' x0 ([] : List ByteArray)) ∧ (d.getD 1 false = true → RowS Kd.string 9 w3.heap.size w' x1 K1) ∧ (d.getD 2 false = true → d.getD 3 true = false → RowS Kd.string 9 w3.heap.size w' x2 ([] : List ByteArray)) ∧ (d.getD 3 false = true → d.getD 4 true = false → RowS Kd.string 9 w3.heap.size w' x3 V1) ∧ (d.getD 4 false = true → RowS Kd.string 9 w3.heap.size w' x4 (V1 ++ V2)) ∧ (d.getD 5 false = true → d.getD 6 true = false → RowS (Kd.int .i64) 3 w3.heap.size w' x5 ([] : List Int)) ∧ (d.getD 6 false = true → d.getD 7 true = false → RowS (Kd.int .i64) 3 w3.heap.size w' x6 D1) ∧ (d.getD 7 false = true → RowS (Kd.int .i64) 3 w3.heap.size w' x7 (D1 ++ D2)) ∧ (d.getD 0 false = true → d.getD 2 false = true → Sep x0 x2) ∧ (d.getD 1 false = true → d.getD 2 false = true → Sep x1 x2) ∧ (d.getD 1 false = true → d.getD 3 false = true → Sep x1 x3) ∧ (d.getD 1 false = true → d.getD 4 false = true → Sep x1 x4) ∧ (d.getD 0 false = true → Lt w' x0) ∧ (d.getD 1 false = true → Lt w' x1) ∧ (d.getD 2 false = true → Lt w' x2) ∧ (d.getD 8 false = true → BoxAt w3.heap.size w' x8 #[.bool false, .slice none 0 0, .slice none 0 0, .slice none 0 0]) ∧ (d.getD 9 false = true → x9 = .agg #[.bool false, x1, x4, x7])) 1 rfl (by kernel_rfl) hHeld ?hF ?hstep ?hfin
      case hF =>
        intro xs hx
        match xs, hx with
        | [x0, x1, x2, x3, x4, x5, x6, x7, x8, x9], _ => exact ⟨x0, x1, x2, x3, x4, x5, x6, x7, x8, x9, rfl, fun h _ => absurd h (by decide), fun h => absurd h (by decide), fun h _ => absurd h (by decide), fun h _ => absurd h (by decide), fun h => absurd h (by decide), fun h _ => absurd h (by decide), fun h _ => absurd h (by decide), fun h => absurd h (by decide), fun h _ => absurd h (by decide), fun h _ => absurd h (by decide), fun h _ => absurd h (by decide), fun h _ => absurd h (by decide), fun h => absurd h (by decide), fun h => absurd h (by decide), fun h => absurd h (by decide), fun h => absurd h (by decide), fun h => absurd h (by decide)⟩
      case hstep =>
        intro j hj
        have hj : j < 10 := hj
        rcases (by omega : j = 0 ∨ j = 1 ∨ j = 2 ∨ j = 3 ∨ j = 4 ∨ j = 5 ∨ j = 6 ∨ j = 7 ∨ j = 8 ∨ j = 9) with rfl | rfl | rfl | rfl | rfl | rfl | rfl | rfl | rfl | rfl
        · intro d hd hjn hn xs wl hx hSl ⟨x0, x1, x2, x3, x4, x5, x6, x7, x8, x9, hxs, fr0, fr1, fr2, fr3, fr4, fr5, fr6, fr7, fs0_2, fs1_2, fs1_3, fs1_4, ft0, ft1, ft2, fbx, fbd⟩ a' ha o ho K hK
          subst hxs
          obtain rfl := Option.some.inj (ho.symm.trans (rfl : _ = some _))
          simp only [putVs, Act.put, List.setIfInBounds_toArray, List.set_cons_zero, List.set_cons_succ] at ha
          subst ha
          refine Kd.R_lit_step Kd.string w3.heap.size 9 ?hg (N := 27) ?hd (xs := ([] : List ByteArray)) (inner := []) (ok := tt) (okp := tt) ?hr ?hp (fun _ hk => hk) trivial hSl hSl.size (by simp) ?_; (case hd => rfl); (case hg => rfl); (case hr => first | (go_simp; done) | (go_simp; rfl)); (case hp => exact (Reps.none _ _))
          intro v6 w6 ho hS6 hG hnew
          have hnewrow := rowS_s ho
          have hsz := hG.size
          exact hK.out _ _ hS6 ⟨_, _, _, _, _, _, _, _, _, _, rfl, fun h0 n1 => hnewrow, fun h1 => absurd ((on_ne d 0 1 (by decide)).symm.trans h1) (fun h2 => bit_abs (before_of (j := 0) (k := 1) (by kernel_rfl) hd hjn hn) h2), fun h2 n3 => RowS.grown0 (fr2 ((on_ne d 0 2 (by decide)).symm.trans h2) ((on_net d 0 3 (by decide)).symm.trans n3)) hG, fun h3 n4 => absurd ((on_ne d 0 3 (by decide)).symm.trans h3) (fun h2 => bit_abs (before_of (j := 0) (k := 3) (by kernel_rfl) hd hjn hn) h2), fun h4 => absurd ((on_ne d 0 4 (by decide)).symm.trans h4) (fun h2 => bit_abs (before_of (j := 0) (k := 4) (by kernel_rfl) hd hjn hn) h2), fun h5 n6 => RowS.grown0 (fr5 ((on_ne d 0 5 (by decide)).symm.trans h5) ((on_net d 0 6 (by decide)).symm.trans n6)) hG, fun h6 n7 => absurd ((on_ne d 0 6 (by decide)).symm.trans h6) (fun h2 => bit_abs (before_of (j := 0) (k := 6) (by kernel_rfl) hd hjn hn) h2), fun h7 => absurd ((on_ne d 0 7 (by decide)).symm.trans h7) (fun h2 => bit_abs (before_of (j := 0) (k := 7) (by kernel_rfl) hd hjn hn) h2), fun h0 h2 => (sep_fresh hnew (ft2 ((on_ne d 0 2 (by decide)).symm.trans h2))), fun h1 h2 => absurd ((on_ne d 0 1 (by decide)).symm.trans h1) (fun h2 => bit_abs (before_of (j := 0) (k := 1) (by kernel_rfl) hd hjn hn) h2), fun h1 h3 => absurd ((on_ne d 0 1 (by decide)).symm.trans h1) (fun h2 => bit_abs (before_of (j := 0) (k := 1) (by kernel_rfl) hd hjn hn) h2), fun h1 h4 => absurd ((on_ne d 0 1 (by decide)).symm.trans h1) (fun h2 => bit_abs (before_of (j := 0) (k := 1) (by kernel_rfl) hd hjn hn) h2), fun h0 => RowS.lt hnewrow, fun h1 => absurd ((on_ne d 0 1 (by decide)).symm.trans h1) (fun h2 => bit_abs (before_of (j := 0) (k := 1) (by kernel_rfl) hd hjn hn) h2), fun h2 => Lt.up (ft2 ((on_ne d 0 2 (by decide)).symm.trans h2)) hsz, fun h8 => BoxAt.grown0 (fbx ((on_ne d 0 8 (by decide)).symm.trans h8)) hG, fun h9 => absurd ((on_ne d 0 9 (by decide)).symm.trans h9) (fun h2 => bit_abs (before_of (j := 0) (k := 9) (by kernel_rfl) hd hjn hn) h2)⟩
        · intro d hd hjn hn xs wl hx hSl ⟨x0, x1, x2, x3, x4, x5, x6, x7, x8, x9, hxs, fr0, fr1, fr2, fr3, fr4, fr5, fr6, fr7, fs0_2, fs1_2, fs1_3, fs1_4, ft0, ft1, ft2, fbx, fbd⟩ a' ha o ho K hK
          subst hxs
          obtain rfl := Option.some.inj (ho.symm.trans (rfl : _ = some _))
          simp only [putVs, Act.put, List.setIfInBounds_toArray, List.set_cons_zero, List.set_cons_succ] at ha
          subst ha
          have g0 := fr0 (after_of (j := 1) (k := 0) (by kernel_rfl) hd hjn hn) hjn
          refine Kd.R_append_rows_step Kd.string (w0 := w3) w3.heap.size (by rfl) (.tmp 27) (.tmp 29) 22 9 (.string ⟨#[]⟩) 16 rfl Try.underlying22 INF9.out rfl (by decide) (by decide) x0 ([] : List ByteArray) K1 a1 n1 c1 tt (fun _ => False) rfl rfl (RowS.tt g0) ((HCA.out wl (HB3.out.trans (hSl.mono HB3.out.size))).1) (fun _ _ h => h) (fun _ h => h.elim) (fun _ _ => trivial) hSl hSl.size ?hl ?_
          case hl => have := HL.out; have := HN.out; simp; omega
          intro v6 w6 ho hS6 hG hat
          have hnewrow : RowS Kd.string 9 w3.heap.size w6 v6 K1 := rowS_s ho
          have hsz := hG.size
          exact hK.out _ _ hS6 ⟨_, _, _, _, _, _, _, _, _, _, rfl, fun h0 n1 => absurd n1 (by rw [on_att]; decide), fun h1 => hnewrow, fun h2 n3 => RowS.grown (fr2 ((on_ne d 1 2 (by decide)).symm.trans h2) ((on_net d 1 3 (by decide)).symm.trans n3)) hG (Sep.symm (fs0_2 (after_of (j := 1) (k := 0) (by kernel_rfl) hd hjn hn) ((on_ne d 1 2 (by decide)).symm.trans h2))), fun h3 n4 => absurd ((on_ne d 1 3 (by decide)).symm.trans h3) (fun h2 => bit_abs (before_of (j := 1) (k := 3) (by kernel_rfl) hd hjn hn) h2), fun h4 => absurd ((on_ne d 1 4 (by decide)).symm.trans h4) (fun h2 => bit_abs (before_of (j := 1) (k := 4) (by kernel_rfl) hd hjn hn) h2), fun h5 n6 => RowS.grown (fr5 ((on_ne d 1 5 (by decide)).symm.trans h5) ((on_net d 1 6 (by decide)).symm.trans n6)) hG (sep_types (fr5 ((on_ne d 1 5 (by decide)).symm.trans h5) ((on_net d 1 6 (by decide)).symm.trans n6)) g0 (by decide)), fun h6 n7 => absurd ((on_ne d 1 6 (by decide)).symm.trans h6) (fun h2 => bit_abs (before_of (j := 1) (k := 6) (by kernel_rfl) hd hjn hn) h2), fun h7 => absurd ((on_ne d 1 7 (by decide)).symm.trans h7) (fun h2 => bit_abs (before_of (j := 1) (k := 7) (by kernel_rfl) hd hjn hn) h2), fun h0 h2 => (fs0_2 (after_of (j := 1) (k := 0) (by kernel_rfl) hd hjn hn) ((on_ne d 1 2 (by decide)).symm.trans h2)), fun h1 h2 => (sep_next hat (fs0_2 (after_of (j := 1) (k := 0) (by kernel_rfl) hd hjn hn) ((on_ne d 1 2 (by decide)).symm.trans h2)) (ft2 ((on_ne d 1 2 (by decide)).symm.trans h2))), fun h1 h3 => absurd ((on_ne d 1 3 (by decide)).symm.trans h3) (fun h2 => bit_abs (before_of (j := 1) (k := 3) (by kernel_rfl) hd hjn hn) h2), fun h1 h4 => absurd ((on_ne d 1 4 (by decide)).symm.trans h4) (fun h2 => bit_abs (before_of (j := 1) (k := 4) (by kernel_rfl) hd hjn hn) h2), fun h0 => Lt.up (ft0 (after_of (j := 1) (k := 0) (by kernel_rfl) hd hjn hn)) hsz, fun h1 => RowS.lt hnewrow, fun h2 => Lt.up (ft2 ((on_ne d 1 2 (by decide)).symm.trans h2)) hsz, fun h8 => BoxAt.grown (fbx ((on_ne d 1 8 (by decide)).symm.trans h8)) g0 (by decide) hG, fun h9 => absurd ((on_ne d 1 9 (by decide)).symm.trans h9) (fun h2 => bit_abs (before_of (j := 1) (k := 9) (by kernel_rfl) hd hjn hn) h2)⟩
        · intro d hd hjn hn xs wl hx hSl ⟨x0, x1, x2, x3, x4, x5, x6, x7, x8, x9, hxs, fr0, fr1, fr2, fr3, fr4, fr5, fr6, fr7, fs0_2, fs1_2, fs1_3, fs1_4, ft0, ft1, ft2, fbx, fbd⟩ a' ha o ho K hK
          subst hxs
          obtain rfl := Option.some.inj (ho.symm.trans (rfl : _ = some _))
          simp only [putVs, Act.put, List.setIfInBounds_toArray, List.set_cons_zero, List.set_cons_succ] at ha
          subst ha
          refine Kd.R_lit_step Kd.string w3.heap.size 9 ?hg (N := 31) ?hd (xs := ([] : List ByteArray)) (inner := []) (ok := tt) (okp := tt) ?hr ?hp (fun _ hk => hk) trivial hSl hSl.size (by simp) ?_; (case hd => rfl); (case hg => rfl); (case hr => first | (go_simp; done) | (go_simp; rfl)); (case hp => exact (Reps.none _ _))
          intro v6 w6 ho hS6 hG hnew
          have hnewrow := rowS_s ho
          have hsz := hG.size
          exact hK.out _ _ hS6 ⟨_, _, _, _, _, _, _, _, _, _, rfl, fun h0 n1 => RowS.grown0 (fr0 ((on_ne d 2 0 (by decide)).symm.trans h0) ((on_net d 2 1 (by decide)).symm.trans n1)) hG, fun h1 => RowS.grown0 (fr1 ((on_ne d 2 1 (by decide)).symm.trans h1)) hG, fun h2 n3 => hnewrow, fun h3 n4 => absurd ((on_ne d 2 3 (by decide)).symm.trans h3) (fun h2 => bit_abs (before_of (j := 2) (k := 3) (by kernel_rfl) hd hjn hn) h2), fun h4 => absurd ((on_ne d 2 4 (by decide)).symm.trans h4) (fun h2 => bit_abs (before_of (j := 2) (k := 4) (by kernel_rfl) hd hjn hn) h2), fun h5 n6 => RowS.grown0 (fr5 ((on_ne d 2 5 (by decide)).symm.trans h5) ((on_net d 2 6 (by decide)).symm.trans n6)) hG, fun h6 n7 => absurd ((on_ne d 2 6 (by decide)).symm.trans h6) (fun h2 => bit_abs (before_of (j := 2) (k := 6) (by kernel_rfl) hd hjn hn) h2), fun h7 => absurd ((on_ne d 2 7 (by decide)).symm.trans h7) (fun h2 => bit_abs (before_of (j := 2) (k := 7) (by kernel_rfl) hd hjn hn) h2), fun h0 h2 => Sep.symm (sep_fresh hnew (ft0 ((on_ne d 2 0 (by decide)).symm.trans h0))), fun h1 h2 => Sep.symm (sep_fresh hnew (ft1 ((on_ne d 2 1 (by decide)).symm.trans h1))), fun h1 h3 => absurd ((on_ne d 2 3 (by decide)).symm.trans h3) (fun h2 => bit_abs (before_of (j := 2) (k := 3) (by kernel_rfl) hd hjn hn) h2), fun h1 h4 => absurd ((on_ne d 2 4 (by decide)).symm.trans h4) (fun h2 => bit_abs (before_of (j := 2) (k := 4) (by kernel_rfl) hd hjn hn) h2), fun h0 => Lt.up (ft0 ((on_ne d 2 0 (by decide)).symm.trans h0)) hsz, fun h1 => Lt.up (ft1 ((on_ne d 2 1 (by decide)).symm.trans h1)) hsz, fun h2 => RowS.lt hnewrow, fun h8 => BoxAt.grown0 (fbx ((on_ne d 2 8 (by decide)).symm.trans h8)) hG, fun h9 => absurd ((on_ne d 2 9 (by decide)).symm.trans h9) (fun h2 => bit_abs (before_of (j := 2) (k := 9) (by kernel_rfl) hd hjn hn) h2)⟩
        · intro d hd hjn hn xs wl hx hSl ⟨x0, x1, x2, x3, x4, x5, x6, x7, x8, x9, hxs, fr0, fr1, fr2, fr3, fr4, fr5, fr6, fr7, fs0_2, fs1_2, fs1_3, fs1_4, ft0, ft1, ft2, fbx, fbd⟩ a' ha o ho K hK
          subst hxs
          obtain rfl := Option.some.inj (ho.symm.trans (rfl : _ = some _))
          simp only [putVs, Act.put, List.setIfInBounds_toArray, List.set_cons_zero, List.set_cons_succ] at ha
          subst ha
          have g1 := fr1 (after_of (j := 3) (k := 1) (by kernel_rfl) hd hjn hn)
          have g2 := fr2 (after_of (j := 3) (k := 2) (by kernel_rfl) hd hjn hn) hjn
          refine Kd.R_append_rows_step Kd.string (w0 := w3) w3.heap.size (by rfl) (.tmp 31) (.tmp 33) 22 9 (.string ⟨#[]⟩) 16 rfl Try.underlying22 INF9.out rfl (by decide) (by decide) x2 ([] : List ByteArray) V1 a2 n2 c2 tt (fun _ => False) rfl rfl (RowS.tt g2) ((HCA.out wl (HB3.out.trans (hSl.mono HB3.out.size))).2.1) (fun _ _ h => h) (fun _ h => h.elim) (fun _ _ => trivial) hSl hSl.size ?hl ?_
          case hl => have := HL.out; have := HN.out; simp; omega
          intro v6 w6 ho hS6 hG hat
          have hnewrow : RowS Kd.string 9 w3.heap.size w6 v6 V1 := rowS_s ho
          have hsz := hG.size
          exact hK.out _ _ hS6 ⟨_, _, _, _, _, _, _, _, _, _, rfl, fun h0 n1 => (bit_abs ((on_net d 3 1 (by decide)).symm.trans n1) (after_of (j := 3) (k := 1) (by kernel_rfl) hd hjn hn)).elim, fun h1 => RowS.grown (fr1 (after_of (j := 3) (k := 1) (by kernel_rfl) hd hjn hn)) hG (fs1_2 (after_of (j := 3) (k := 1) (by kernel_rfl) hd hjn hn) (after_of (j := 3) (k := 2) (by kernel_rfl) hd hjn hn)), fun h2 n3 => absurd n3 (by rw [on_att]; decide), fun h3 n4 => hnewrow, fun h4 => absurd ((on_ne d 3 4 (by decide)).symm.trans h4) (fun h2 => bit_abs (before_of (j := 3) (k := 4) (by kernel_rfl) hd hjn hn) h2), fun h5 n6 => RowS.grown (fr5 ((on_ne d 3 5 (by decide)).symm.trans h5) ((on_net d 3 6 (by decide)).symm.trans n6)) hG (sep_types (fr5 ((on_ne d 3 5 (by decide)).symm.trans h5) ((on_net d 3 6 (by decide)).symm.trans n6)) g2 (by decide)), fun h6 n7 => absurd ((on_ne d 3 6 (by decide)).symm.trans h6) (fun h2 => bit_abs (before_of (j := 3) (k := 6) (by kernel_rfl) hd hjn hn) h2), fun h7 => absurd ((on_ne d 3 7 (by decide)).symm.trans h7) (fun h2 => bit_abs (before_of (j := 3) (k := 7) (by kernel_rfl) hd hjn hn) h2), fun h0 h2 => (fs0_2 (after_of (j := 3) (k := 0) (by kernel_rfl) hd hjn hn) (after_of (j := 3) (k := 2) (by kernel_rfl) hd hjn hn)), fun h1 h2 => (fs1_2 (after_of (j := 3) (k := 1) (by kernel_rfl) hd hjn hn) (after_of (j := 3) (k := 2) (by kernel_rfl) hd hjn hn)), fun h1 h3 => Sep.symm (sep_next hat (Sep.symm (fs1_2 (after_of (j := 3) (k := 1) (by kernel_rfl) hd hjn hn) (after_of (j := 3) (k := 2) (by kernel_rfl) hd hjn hn))) (ft1 (after_of (j := 3) (k := 1) (by kernel_rfl) hd hjn hn))), fun h1 h4 => absurd ((on_ne d 3 4 (by decide)).symm.trans h4) (fun h2 => bit_abs (before_of (j := 3) (k := 4) (by kernel_rfl) hd hjn hn) h2), fun h0 => Lt.up (ft0 (after_of (j := 3) (k := 0) (by kernel_rfl) hd hjn hn)) hsz, fun h1 => Lt.up (ft1 (after_of (j := 3) (k := 1) (by kernel_rfl) hd hjn hn)) hsz, fun h2 => Lt.up (ft2 (after_of (j := 3) (k := 2) (by kernel_rfl) hd hjn hn)) hsz, fun h8 => BoxAt.grown (fbx ((on_ne d 3 8 (by decide)).symm.trans h8)) g2 (by decide) hG, fun h9 => absurd ((on_ne d 3 9 (by decide)).symm.trans h9) (fun h2 => bit_abs (before_of (j := 3) (k := 9) (by kernel_rfl) hd hjn hn) h2)⟩
        · intro d hd hjn hn xs wl hx hSl ⟨x0, x1, x2, x3, x4, x5, x6, x7, x8, x9, hxs, fr0, fr1, fr2, fr3, fr4, fr5, fr6, fr7, fs0_2, fs1_2, fs1_3, fs1_4, ft0, ft1, ft2, fbx, fbd⟩ a' ha o ho K hK
          subst hxs
          obtain rfl := Option.some.inj (ho.symm.trans (rfl : _ = some _))
          simp only [putVs, Act.put, List.setIfInBounds_toArray, List.set_cons_zero, List.set_cons_succ] at ha
          subst ha
          have g3 := fr3 (after_of (j := 4) (k := 3) (by kernel_rfl) hd hjn hn) hjn
          refine Kd.R_append_rows_step Kd.string (w0 := w3) w3.heap.size (by rfl) (.tmp 34) (.tmp 36) 22 9 (.string ⟨#[]⟩) 16 rfl Try.underlying22 INF9.out rfl (by decide) (by decide) x3 V1 V2 a5 n5 c5 tt (fun _ => False) rfl rfl (RowS.tt g3) ((HCB.out wl (HB3.out.trans (hSl.mono HB3.out.size))).2.1) (fun _ _ h => h) (fun _ h => h.elim) (fun _ _ => trivial) hSl hSl.size ?hl ?_
          case hl => have := HL.out; have := HN.out; simp; omega
          intro v6 w6 ho hS6 hG hat
          have hnewrow : RowS Kd.string 9 w3.heap.size w6 v6 (V1 ++ V2) := rowS_s ho
          have hsz := hG.size
          exact hK.out _ _ hS6 ⟨_, _, _, _, _, _, _, _, _, _, rfl, fun h0 n1 => (bit_abs ((on_net d 4 1 (by decide)).symm.trans n1) (after_of (j := 4) (k := 1) (by kernel_rfl) hd hjn hn)).elim, fun h1 => RowS.grown (fr1 (after_of (j := 4) (k := 1) (by kernel_rfl) hd hjn hn)) hG (fs1_3 (after_of (j := 4) (k := 1) (by kernel_rfl) hd hjn hn) (after_of (j := 4) (k := 3) (by kernel_rfl) hd hjn hn)), fun h2 n3 => (bit_abs ((on_net d 4 3 (by decide)).symm.trans n3) (after_of (j := 4) (k := 3) (by kernel_rfl) hd hjn hn)).elim, fun h3 n4 => absurd n4 (by rw [on_att]; decide), fun h4 => hnewrow, fun h5 n6 => RowS.grown (fr5 ((on_ne d 4 5 (by decide)).symm.trans h5) ((on_net d 4 6 (by decide)).symm.trans n6)) hG (sep_types (fr5 ((on_ne d 4 5 (by decide)).symm.trans h5) ((on_net d 4 6 (by decide)).symm.trans n6)) g3 (by decide)), fun h6 n7 => absurd ((on_ne d 4 6 (by decide)).symm.trans h6) (fun h2 => bit_abs (before_of (j := 4) (k := 6) (by kernel_rfl) hd hjn hn) h2), fun h7 => absurd ((on_ne d 4 7 (by decide)).symm.trans h7) (fun h2 => bit_abs (before_of (j := 4) (k := 7) (by kernel_rfl) hd hjn hn) h2), fun h0 h2 => (fs0_2 (after_of (j := 4) (k := 0) (by kernel_rfl) hd hjn hn) (after_of (j := 4) (k := 2) (by kernel_rfl) hd hjn hn)), fun h1 h2 => (fs1_2 (after_of (j := 4) (k := 1) (by kernel_rfl) hd hjn hn) (after_of (j := 4) (k := 2) (by kernel_rfl) hd hjn hn)), fun h1 h3 => (fs1_3 (after_of (j := 4) (k := 1) (by kernel_rfl) hd hjn hn) (after_of (j := 4) (k := 3) (by kernel_rfl) hd hjn hn)), fun h1 h4 => Sep.symm (sep_next hat (Sep.symm (fs1_3 (after_of (j := 4) (k := 1) (by kernel_rfl) hd hjn hn) (after_of (j := 4) (k := 3) (by kernel_rfl) hd hjn hn))) (ft1 (after_of (j := 4) (k := 1) (by kernel_rfl) hd hjn hn))), fun h0 => Lt.up (ft0 (after_of (j := 4) (k := 0) (by kernel_rfl) hd hjn hn)) hsz, fun h1 => Lt.up (ft1 (after_of (j := 4) (k := 1) (by kernel_rfl) hd hjn hn)) hsz, fun h2 => Lt.up (ft2 (after_of (j := 4) (k := 2) (by kernel_rfl) hd hjn hn)) hsz, fun h8 => BoxAt.grown (fbx ((on_ne d 4 8 (by decide)).symm.trans h8)) g3 (by decide) hG, fun h9 => absurd ((on_ne d 4 9 (by decide)).symm.trans h9) (fun h2 => bit_abs (before_of (j := 4) (k := 9) (by kernel_rfl) hd hjn hn) h2)⟩
        · intro d hd hjn hn xs wl hx hSl ⟨x0, x1, x2, x3, x4, x5, x6, x7, x8, x9, hxs, fr0, fr1, fr2, fr3, fr4, fr5, fr6, fr7, fs0_2, fs1_2, fs1_3, fs1_4, ft0, ft1, ft2, fbx, fbd⟩ a' ha o ho K hK
          subst hxs
          obtain rfl := Option.some.inj (ho.symm.trans (rfl : _ = some _))
          simp only [putVs, Act.put, List.setIfInBounds_toArray, List.set_cons_zero, List.set_cons_succ] at ha
          subst ha
          refine Kd.R_lit_step (Kd.int .i64) w3.heap.size 3 ?hg (N := 38) ?hd (xs := ([] : List Int)) (inner := []) (ok := tt) (okp := tt) ?hr ?hp (fun _ hk => hk) trivial hSl hSl.size (by simp) ?_; (case hd => rfl); (case hg => rfl); (case hr => first | (go_simp; done) | (go_simp; rfl)); (case hp => exact (Reps.none _ _))
          intro v6 w6 ho hS6 hG hnew
          have hnewrow := rowS_i ho
          have hsz := hG.size
          exact hK.out _ _ hS6 ⟨_, _, _, _, _, _, _, _, _, _, rfl, fun h0 n1 => RowS.grown0 (fr0 ((on_ne d 5 0 (by decide)).symm.trans h0) ((on_net d 5 1 (by decide)).symm.trans n1)) hG, fun h1 => RowS.grown0 (fr1 ((on_ne d 5 1 (by decide)).symm.trans h1)) hG, fun h2 n3 => RowS.grown0 (fr2 ((on_ne d 5 2 (by decide)).symm.trans h2) ((on_net d 5 3 (by decide)).symm.trans n3)) hG, fun h3 n4 => RowS.grown0 (fr3 ((on_ne d 5 3 (by decide)).symm.trans h3) ((on_net d 5 4 (by decide)).symm.trans n4)) hG, fun h4 => RowS.grown0 (fr4 ((on_ne d 5 4 (by decide)).symm.trans h4)) hG, fun h5 n6 => hnewrow, fun h6 n7 => absurd ((on_ne d 5 6 (by decide)).symm.trans h6) (fun h2 => bit_abs (before_of (j := 5) (k := 6) (by kernel_rfl) hd hjn hn) h2), fun h7 => absurd ((on_ne d 5 7 (by decide)).symm.trans h7) (fun h2 => bit_abs (before_of (j := 5) (k := 7) (by kernel_rfl) hd hjn hn) h2), fun h0 h2 => (fs0_2 ((on_ne d 5 0 (by decide)).symm.trans h0) ((on_ne d 5 2 (by decide)).symm.trans h2)), fun h1 h2 => (fs1_2 ((on_ne d 5 1 (by decide)).symm.trans h1) ((on_ne d 5 2 (by decide)).symm.trans h2)), fun h1 h3 => (fs1_3 ((on_ne d 5 1 (by decide)).symm.trans h1) ((on_ne d 5 3 (by decide)).symm.trans h3)), fun h1 h4 => (fs1_4 ((on_ne d 5 1 (by decide)).symm.trans h1) ((on_ne d 5 4 (by decide)).symm.trans h4)), fun h0 => Lt.up (ft0 ((on_ne d 5 0 (by decide)).symm.trans h0)) hsz, fun h1 => Lt.up (ft1 ((on_ne d 5 1 (by decide)).symm.trans h1)) hsz, fun h2 => Lt.up (ft2 ((on_ne d 5 2 (by decide)).symm.trans h2)) hsz, fun h8 => BoxAt.grown0 (fbx ((on_ne d 5 8 (by decide)).symm.trans h8)) hG, fun h9 => absurd ((on_ne d 5 9 (by decide)).symm.trans h9) (fun h2 => bit_abs (before_of (j := 5) (k := 9) (by kernel_rfl) hd hjn hn) h2)⟩
        · intro d hd hjn hn xs wl hx hSl ⟨x0, x1, x2, x3, x4, x5, x6, x7, x8, x9, hxs, fr0, fr1, fr2, fr3, fr4, fr5, fr6, fr7, fs0_2, fs1_2, fs1_3, fs1_4, ft0, ft1, ft2, fbx, fbd⟩ a' ha o ho K hK
          subst hxs
          obtain rfl := Option.some.inj (ho.symm.trans (rfl : _ = some _))
          simp only [putVs, Act.put, List.setIfInBounds_toArray, List.set_cons_zero, List.set_cons_succ] at ha
          subst ha
          have g4 := fr4 (after_of (j := 6) (k := 4) (by kernel_rfl) hd hjn hn)
          have g5 := fr5 (after_of (j := 6) (k := 5) (by kernel_rfl) hd hjn hn) hjn
          refine Kd.R_append_rows_step (Kd.int .i64) (w0 := w3) w3.heap.size (by rfl) (.tmp 38) (.tmp 40) 23 3 (.int .i64 0) 8 rfl Try.underlying23 INF3.out rfl (by decide) (by decide) x5 ([] : List Int) D1 a3 n3 c3 tt (fun _ => False) rfl rfl (RowS.tt g5) ((HCA.out wl (HB3.out.trans (hSl.mono HB3.out.size))).2.2) (fun _ _ h => h) (fun _ h => h.elim) (fun _ _ => trivial) hSl hSl.size ?hl ?_
          case hl => have := HL.out; have := HN.out; simp; omega
          intro v6 w6 ho hS6 hG hat
          have hnewrow : RowS (Kd.int .i64) 3 w3.heap.size w6 v6 D1 := rowS_i ho
          have hsz := hG.size
          exact hK.out _ _ hS6 ⟨_, _, _, _, _, _, _, _, _, _, rfl, fun h0 n1 => (bit_abs ((on_net d 6 1 (by decide)).symm.trans n1) (after_of (j := 6) (k := 1) (by kernel_rfl) hd hjn hn)).elim, fun h1 => RowS.grown (fr1 (after_of (j := 6) (k := 1) (by kernel_rfl) hd hjn hn)) hG (sep_types (fr1 (after_of (j := 6) (k := 1) (by kernel_rfl) hd hjn hn)) g5 (by decide)), fun h2 n3 => (bit_abs ((on_net d 6 3 (by decide)).symm.trans n3) (after_of (j := 6) (k := 3) (by kernel_rfl) hd hjn hn)).elim, fun h3 n4 => (bit_abs ((on_net d 6 4 (by decide)).symm.trans n4) (after_of (j := 6) (k := 4) (by kernel_rfl) hd hjn hn)).elim, fun h4 => RowS.grown (fr4 (after_of (j := 6) (k := 4) (by kernel_rfl) hd hjn hn)) hG (sep_types (fr4 (after_of (j := 6) (k := 4) (by kernel_rfl) hd hjn hn)) g5 (by decide)), fun h5 n6 => absurd n6 (by rw [on_att]; decide), fun h6 n7 => hnewrow, fun h7 => absurd ((on_ne d 6 7 (by decide)).symm.trans h7) (fun h2 => bit_abs (before_of (j := 6) (k := 7) (by kernel_rfl) hd hjn hn) h2), fun h0 h2 => (fs0_2 (after_of (j := 6) (k := 0) (by kernel_rfl) hd hjn hn) (after_of (j := 6) (k := 2) (by kernel_rfl) hd hjn hn)), fun h1 h2 => (fs1_2 (after_of (j := 6) (k := 1) (by kernel_rfl) hd hjn hn) (after_of (j := 6) (k := 2) (by kernel_rfl) hd hjn hn)), fun h1 h3 => (fs1_3 (after_of (j := 6) (k := 1) (by kernel_rfl) hd hjn hn) (after_of (j := 6) (k := 3) (by kernel_rfl) hd hjn hn)), fun h1 h4 => (fs1_4 (after_of (j := 6) (k := 1) (by kernel_rfl) hd hjn hn) (after_of (j := 6) (k := 4) (by kernel_rfl) hd hjn hn)), fun h0 => Lt.up (ft0 (after_of (j := 6) (k := 0) (by kernel_rfl) hd hjn hn)) hsz, fun h1 => Lt.up (ft1 (after_of (j := 6) (k := 1) (by kernel_rfl) hd hjn hn)) hsz, fun h2 => Lt.up (ft2 (after_of (j := 6) (k := 2) (by kernel_rfl) hd hjn hn)) hsz, fun h8 => BoxAt.grown (fbx ((on_ne d 6 8 (by decide)).symm.trans h8)) g5 (by decide) hG, fun h9 => absurd ((on_ne d 6 9 (by decide)).symm.trans h9) (fun h2 => bit_abs (before_of (j := 6) (k := 9) (by kernel_rfl) hd hjn hn) h2)⟩
        · intro d hd hjn hn xs wl hx hSl ⟨x0, x1, x2, x3, x4, x5, x6, x7, x8, x9, hxs, fr0, fr1, fr2, fr3, fr4, fr5, fr6, fr7, fs0_2, fs1_2, fs1_3, fs1_4, ft0, ft1, ft2, fbx, fbd⟩ a' ha o ho K hK
          subst hxs
          obtain rfl := Option.some.inj (ho.symm.trans (rfl : _ = some _))
          simp only [putVs, Act.put, List.setIfInBounds_toArray, List.set_cons_zero, List.set_cons_succ] at ha
          subst ha
          have g6 := fr6 (after_of (j := 7) (k := 6) (by kernel_rfl) hd hjn hn) hjn
          refine Kd.R_append_rows_step (Kd.int .i64) (w0 := w3) w3.heap.size (by rfl) (.tmp 41) (.tmp 43) 23 3 (.int .i64 0) 8 rfl Try.underlying23 INF3.out rfl (by decide) (by decide) x6 D1 D2 a6 n6 c6 tt (fun _ => False) rfl rfl (RowS.tt g6) ((HCB.out wl (HB3.out.trans (hSl.mono HB3.out.size))).2.2) (fun _ _ h => h) (fun _ h => h.elim) (fun _ _ => trivial) hSl hSl.size ?hl ?_
          case hl => have := HL.out; have := HN.out; simp; omega
          intro v6 w6 ho hS6 hG hat
          have hnewrow : RowS (Kd.int .i64) 3 w3.heap.size w6 v6 (D1 ++ D2) := rowS_i ho
          have hsz := hG.size
          exact hK.out _ _ hS6 ⟨_, _, _, _, _, _, _, _, _, _, rfl, fun h0 n1 => (bit_abs ((on_net d 7 1 (by decide)).symm.trans n1) (after_of (j := 7) (k := 1) (by kernel_rfl) hd hjn hn)).elim, fun h1 => RowS.grown (fr1 (after_of (j := 7) (k := 1) (by kernel_rfl) hd hjn hn)) hG (sep_types (fr1 (after_of (j := 7) (k := 1) (by kernel_rfl) hd hjn hn)) g6 (by decide)), fun h2 n3 => (bit_abs ((on_net d 7 3 (by decide)).symm.trans n3) (after_of (j := 7) (k := 3) (by kernel_rfl) hd hjn hn)).elim, fun h3 n4 => (bit_abs ((on_net d 7 4 (by decide)).symm.trans n4) (after_of (j := 7) (k := 4) (by kernel_rfl) hd hjn hn)).elim, fun h4 => RowS.grown (fr4 (after_of (j := 7) (k := 4) (by kernel_rfl) hd hjn hn)) hG (sep_types (fr4 (after_of (j := 7) (k := 4) (by kernel_rfl) hd hjn hn)) g6 (by decide)), fun h5 n6 => (bit_abs ((on_net d 7 6 (by decide)).symm.trans n6) (after_of (j := 7) (k := 6) (by kernel_rfl) hd hjn hn)).elim, fun h6 n7 => absurd n7 (by rw [on_att]; decide), fun h7 => hnewrow, fun h0 h2 => (fs0_2 (after_of (j := 7) (k := 0) (by kernel_rfl) hd hjn hn) (after_of (j := 7) (k := 2) (by kernel_rfl) hd hjn hn)), fun h1 h2 => (fs1_2 (after_of (j := 7) (k := 1) (by kernel_rfl) hd hjn hn) (after_of (j := 7) (k := 2) (by kernel_rfl) hd hjn hn)), fun h1 h3 => (fs1_3 (after_of (j := 7) (k := 1) (by kernel_rfl) hd hjn hn) (after_of (j := 7) (k := 3) (by kernel_rfl) hd hjn hn)), fun h1 h4 => (fs1_4 (after_of (j := 7) (k := 1) (by kernel_rfl) hd hjn hn) (after_of (j := 7) (k := 4) (by kernel_rfl) hd hjn hn)), fun h0 => Lt.up (ft0 (after_of (j := 7) (k := 0) (by kernel_rfl) hd hjn hn)) hsz, fun h1 => Lt.up (ft1 (after_of (j := 7) (k := 1) (by kernel_rfl) hd hjn hn)) hsz, fun h2 => Lt.up (ft2 (after_of (j := 7) (k := 2) (by kernel_rfl) hd hjn hn)) hsz, fun h8 => BoxAt.grown (fbx ((on_ne d 7 8 (by decide)).symm.trans h8)) g6 (by decide) hG, fun h9 => absurd ((on_ne d 7 9 (by decide)).symm.trans h9) (fun h2 => bit_abs (before_of (j := 7) (k := 9) (by kernel_rfl) hd hjn hn) h2)⟩
        · intro d hd hjn hn xs wl hx hSl ⟨x0, x1, x2, x3, x4, x5, x6, x7, x8, x9, hxs, fr0, fr1, fr2, fr3, fr4, fr5, fr6, fr7, fs0_2, fs1_2, fs1_3, fs1_4, ft0, ft1, ft2, fbx, fbd⟩ a' ha o ho K hK
          subst hxs
          obtain rfl := Option.some.inj (ho.symm.trans (rfl : _ = some _))
          simp only [putVs, Act.put, List.setIfInBounds_toArray, List.set_cons_zero, List.set_cons_succ] at ha
          subst ha
          have hb1 : Below wl.heap.size wl (wl.alloc (.cells #[.bool false, .slice none 0 0, .slice none 0 0, .slice none 0 0] 25)) := below_alloc (Below.refl _ _) _
          have hG : wl.grownBy (wl.alloc (.cells #[.bool false, .slice none 0 0, .slice none 0 0, .slice none 0 0] 25)) none := World.grownBy_alloc _ _ _
          have hsz := hG.size
          have hS6 := hSl.trans (hb1.mono hSl.size)
          refine value_ rfl rfl (v := .pointer (some ⟨wl.heap.size, 0, none⟩)) (w1 := wl.alloc (.cells #[.bool false, .slice none 0 0, .slice none 0 0, .slice none 0 0] 25)) (by first | (go_simp; done) | (go_simp; rfl)) ?_
          exact hK.out _ _ hS6 ⟨_, _, _, _, _, _, _, _, _, _, rfl, fun h0 n1 => RowS.grown0 (fr0 ((on_ne d 8 0 (by decide)).symm.trans h0) ((on_net d 8 1 (by decide)).symm.trans n1)) hG, fun h1 => RowS.grown0 (fr1 ((on_ne d 8 1 (by decide)).symm.trans h1)) hG, fun h2 n3 => RowS.grown0 (fr2 ((on_ne d 8 2 (by decide)).symm.trans h2) ((on_net d 8 3 (by decide)).symm.trans n3)) hG, fun h3 n4 => RowS.grown0 (fr3 ((on_ne d 8 3 (by decide)).symm.trans h3) ((on_net d 8 4 (by decide)).symm.trans n4)) hG, fun h4 => RowS.grown0 (fr4 ((on_ne d 8 4 (by decide)).symm.trans h4)) hG, fun h5 n6 => RowS.grown0 (fr5 ((on_ne d 8 5 (by decide)).symm.trans h5) ((on_net d 8 6 (by decide)).symm.trans n6)) hG, fun h6 n7 => RowS.grown0 (fr6 ((on_ne d 8 6 (by decide)).symm.trans h6) ((on_net d 8 7 (by decide)).symm.trans n7)) hG, fun h7 => RowS.grown0 (fr7 ((on_ne d 8 7 (by decide)).symm.trans h7)) hG, fun h0 h2 => (fs0_2 ((on_ne d 8 0 (by decide)).symm.trans h0) ((on_ne d 8 2 (by decide)).symm.trans h2)), fun h1 h2 => (fs1_2 ((on_ne d 8 1 (by decide)).symm.trans h1) ((on_ne d 8 2 (by decide)).symm.trans h2)), fun h1 h3 => (fs1_3 ((on_ne d 8 1 (by decide)).symm.trans h1) ((on_ne d 8 3 (by decide)).symm.trans h3)), fun h1 h4 => (fs1_4 ((on_ne d 8 1 (by decide)).symm.trans h1) ((on_ne d 8 4 (by decide)).symm.trans h4)), fun h0 => Lt.up (ft0 ((on_ne d 8 0 (by decide)).symm.trans h0)) hsz, fun h1 => Lt.up (ft1 ((on_ne d 8 1 (by decide)).symm.trans h1)) hsz, fun h2 => Lt.up (ft2 ((on_ne d 8 2 (by decide)).symm.trans h2)) hsz, fun h8 => ⟨_, rfl, blk_new wl _, hSl.size⟩, fun h9 => (fbd ((on_ne d 8 9 (by decide)).symm.trans h9))⟩
        · intro d hd hjn hn xs wl hx hSl ⟨x0, x1, x2, x3, x4, x5, x6, x7, x8, x9, hxs, fr0, fr1, fr2, fr3, fr4, fr5, fr6, fr7, fs0_2, fs1_2, fs1_3, fs1_4, ft0, ft1, ft2, fbx, fbd⟩ a' ha o ho K hK
          subst hxs
          obtain rfl := Option.some.inj (ho.symm.trans (rfl : _ = some _))
          simp only [putVs, Act.put, List.setIfInBounds_toArray, List.set_cons_zero, List.set_cons_succ] at ha
          subst ha
          have g1 := fr1 (after_of (j := 9) (k := 1) (by kernel_rfl) hd hjn hn)
          have g4 := fr4 (after_of (j := 9) (k := 4) (by kernel_rfl) hd hjn hn)
          have g7 := fr7 (after_of (j := 9) (k := 7) (by kernel_rfl) hd hjn hn)
          obtain ⟨A7, c7, rfl⟩ := Kd.R_slice g1
          obtain ⟨A8, c8, rfl⟩ := Kd.R_slice g4
          obtain ⟨A9, c9, rfl⟩ := Kd.R_slice g7
          have hS6 := hSl
          refine value_ rfl rfl (v := .agg #[.bool false, .slice A7 K1.length c7, .slice A8 (V1 ++ V2).length c8, .slice A9 (D1 ++ D2).length c9]) (w1 := wl) (by first | (go_simp; done) | (go_simp; rfl)) ?_
          exact hK.out _ _ hS6 ⟨_, _, _, _, _, _, _, _, _, _, rfl, fun h0 n1 => (bit_abs ((on_net d 9 1 (by decide)).symm.trans n1) (after_of (j := 9) (k := 1) (by kernel_rfl) hd hjn hn)).elim, fun h1 => (fr1 (after_of (j := 9) (k := 1) (by kernel_rfl) hd hjn hn)), fun h2 n3 => (bit_abs ((on_net d 9 3 (by decide)).symm.trans n3) (after_of (j := 9) (k := 3) (by kernel_rfl) hd hjn hn)).elim, fun h3 n4 => (bit_abs ((on_net d 9 4 (by decide)).symm.trans n4) (after_of (j := 9) (k := 4) (by kernel_rfl) hd hjn hn)).elim, fun h4 => (fr4 (after_of (j := 9) (k := 4) (by kernel_rfl) hd hjn hn)), fun h5 n6 => (bit_abs ((on_net d 9 6 (by decide)).symm.trans n6) (after_of (j := 9) (k := 6) (by kernel_rfl) hd hjn hn)).elim, fun h6 n7 => (bit_abs ((on_net d 9 7 (by decide)).symm.trans n7) (after_of (j := 9) (k := 7) (by kernel_rfl) hd hjn hn)).elim, fun h7 => (fr7 (after_of (j := 9) (k := 7) (by kernel_rfl) hd hjn hn)), fun h0 h2 => (fs0_2 (after_of (j := 9) (k := 0) (by kernel_rfl) hd hjn hn) (after_of (j := 9) (k := 2) (by kernel_rfl) hd hjn hn)), fun h1 h2 => (fs1_2 (after_of (j := 9) (k := 1) (by kernel_rfl) hd hjn hn) (after_of (j := 9) (k := 2) (by kernel_rfl) hd hjn hn)), fun h1 h3 => (fs1_3 (after_of (j := 9) (k := 1) (by kernel_rfl) hd hjn hn) (after_of (j := 9) (k := 3) (by kernel_rfl) hd hjn hn)), fun h1 h4 => (fs1_4 (after_of (j := 9) (k := 1) (by kernel_rfl) hd hjn hn) (after_of (j := 9) (k := 4) (by kernel_rfl) hd hjn hn)), fun h0 => (ft0 (after_of (j := 9) (k := 0) (by kernel_rfl) hd hjn hn)), fun h1 => (ft1 (after_of (j := 9) (k := 1) (by kernel_rfl) hd hjn hn)), fun h2 => (ft2 (after_of (j := 9) (k := 2) (by kernel_rfl) hd hjn hn)), fun h8 => (fbx ((on_ne d 9 8 (by decide)).symm.trans h8)), fun h9 => rfl⟩
      case hfin =>
        intro xs wl hx hSl ⟨x0, x1, x2, x3, x4, x5, x6, x7, x8, x9, hxs, fr0, fr1, fr2, fr3, fr4, fr5, fr6, fr7, fs0_2, fs1_2, fs1_3, fs1_4, ft0, ft1, ft2, fbx, fbd⟩ a' ha
        subst hxs
        simp only [putVs, Act.put, List.setIfInBounds_toArray, List.set_cons_zero, List.set_cons_succ] at ha
        subst ha
        have gr1 := fr1 (by decide)
        have gr4 := fr4 (by decide)
        have gr7 := fr7 (by decide)
        have gs0_2 := fs0_2 (by decide) (by decide)
        have gs1_2 := fs1_2 (by decide) (by decide)
        have gs1_3 := fs1_3 (by decide) (by decide)
        have gs1_4 := fs1_4 (by decide) (by decide)
        have gt0 := ft0 (by decide)
        have gt1 := ft1 (by decide)
        have gt2 := ft2 (by decide)
        have gbx := fbx (by decide)
        have gbd := fbd (by decide)
        clear fr0 fr1 fr2 fr3 fr4 fr5 fr6 fr7 fs0_2 fs1_2 fs1_3 fs1_4 ft0 ft1 ft2 fbx fbd
        obtain ⟨g8, rfl, hq8, hg8⟩ := gbx
        have hHeld := hSl
        subst gbd
        obtain ⟨A7, c7, rfl⟩ := Kd.R_slice gr1
        obtain ⟨A8, c8, rfl⟩ := Kd.R_slice gr4
        obtain ⟨A9, c9, rfl⟩ := Kd.R_slice gr7
        have HX1 := Aside0.mk gr1
        have HX4 := Aside0.mk gr4
        have HX7 := Aside0.mk gr7
        have HSP := Aside0.mk gs1_4
        have HQ8 := Aside0.mk hq8
        have HG8 := Aside0.mk hg8
        have HSl := Aside0.mk hSl
        obtain ⟨i0, i1, i2, i3⟩ := cells_of hq8
        have j0 := frz_of hq8 0
        have j1 := frz_of hq8 1
        have j2 := frz_of hq8 2
        have j3 := frz_of hq8 3
        clear gr1 gr4 gr7 gs0_2 gs1_2 gs1_3 gs1_4 gt0 gt1 gt2 hq8 hg8
        refine one_ (i := 22) (N := none) #[true, true, true, true, true, true, true, true, true, true, true, true, true, true, true, true, true, true, true, true, true, true, true] rfl rfl (by kernel_rfl) (by decide) (fun K hK => ?_)
        refine skip_ rfl rfl (w1 := set4 wl g8 (.bool false) (.slice A7 K1.length c7) (.slice A8 (V1 ++ V2).length c8) (.slice A9 (D1 ++ D2).length c9)) (by first | (go_simp; done) | (go_simp; rfl)) ?_
        refine hK.out _ _ (set4_below HSl.out HG8.out _ _ _ _) (fun hHeld => ?_)
        clear hK K 
        refine done_ (by kernel_rfl) ?_
        obtain ⟨Ka, hKa⟩ : ∃ Ka, Ka = K1 := ⟨_, rfl⟩
        obtain ⟨Vo, hVo⟩ : ∃ Vo, Vo = V1 ++ V2 := ⟨_, rfl⟩
        obtain ⟨Do, hDo⟩ : ∃ Do, Do = D1 ++ D2 := ⟨_, rfl⟩
        rw [← hKa] at HX1 HSP
        rw [← hVo] at HX4 HSP
        rw [← hDo] at HX7
        rw [← hKa, ← hVo, ← hDo]
        clear i0 i1 i2 i3 j0 j1 j2 j3
        have hq8 := set4_blk HQ8.out (.bool false) (.slice A7 Ka.length c7) (.slice A8 Vo.length c8) (.slice A9 Do.length c9)
        have hx1 := RowS.set4 HX1.out HQ8.out (by decide) (.bool false) (.slice A7 Ka.length c7) (.slice A8 Vo.length c8) (.slice A9 Do.length c9)
        have hx4 := RowS.set4 HX4.out HQ8.out (by decide) (.bool false) (.slice A7 Ka.length c7) (.slice A8 Vo.length c8) (.slice A9 Do.length c9)
        have hx7 := RowS.set4 HX7.out HQ8.out (by decide) (.bool false) (.slice A7 Ka.length c7) (.slice A8 Vo.length c8) (.slice A9 Do.length c9)
        have hb7 := set4_below HSl.out HG8.out (.bool false) (.slice A7 Ka.length c7) (.slice A8 Vo.length c8) (.slice A9 Do.length c9)
        clear HX1 HX4 HX7 HQ8 hHeld HSl
        generalize set4 wl g8 (.bool false) (.slice A7 Ka.length c7) (.slice A8 Vo.length c8) (.slice A9 Do.length c9) = w7 at hq8 hx1 hx4 hx7 hb7 ⊢
        have z0 := (cells_of (blk_below HQ3c.out hb7)).1
        obtain ⟨nk, hnk⟩ : ∃ nk, nk = Ka.length := ⟨_, rfl⟩
        rw [← hnk] at hq8 hx1 HSP ⊢
        have HNK := Aside0.mk (show nk ≤ 300 by have := HL.out; rw [hnk, hKa]; omega)
        have HNKa := Aside0.mk hnk
        obtain ⟨i0, i1, i2, i3⟩ := cells_of hq8
        have HQ8 := Aside0.mk hq8
        have HX1 := Aside0.mk hx1
        have HX4 := Aside0.mk hx4
        have HX7 := Aside0.mk hx7
        have HB7 := Aside0.mk hb7
        have HKa := Aside0.mk hKa
        have HE := Aside0.mk (And.intro hVo hDo)
        have t1 := (cells_of (blk_below HQ5c.out hb7)).2.1
        clear hq8 hx1 hx4 hx7 hb7 hnk hKa hVo hDo
        have hal : w7.grownBy (w7.alloc (.cells #[.string key] 9)) none := World.grownBy_alloc _ _ _
        have hbal : Below w7.heap.size w7 (w7.alloc (.cells #[.string key] 9)) := below_alloc (Below.refl _ _) _
        have HXA := Aside0.mk (RowS.grown0 HX1.out hal)
        have HXB := Aside0.mk (RowS.grown0 HX4.out hal)
        have HXC := Aside0.mk (RowS.grown0 HX7.out hal)
        have HQA := Aside0.mk (blk_below HQ8.out hbal)
        have HBA := Aside0.mk (HB7.out.trans (hbal.mono HB7.out.size))
        have HKY := Aside0.mk (strC (key := key) (blk_new w7 (.cells #[.string key] 9 (0, 0))))
        clear hal hbal
        go_upto_region 6 with (first
          | ((with_reducible refine gate_dst (N := 53) rfl ?_); at_builtin; refine Kd.R_append_rows Kd.string (w0 := w3) w3.heap.size rfl (.tmp 50) (.tmp 52) 22 9 (.string ⟨#[]⟩) 16 rfl Try.underlying22 INF9.out rfl (by decide) (by decide) (.slice A7 nk c7) Ka [key] (some ⟨w7.heap.size, 0, none⟩) 1 1 tt (fun _ => False) rfl rfl (RowS.tt HXA.out) HKY.out (fun _ _ h => h) (fun _ h => h.elim) (fun _ _ => trivial) HBA.out (HBA.out).size ?hl ?_; (case hl => have h1 := HNK.out; have h4 := HNKa.out; have h2 := HL.out; have h3 := HN.out; simp; omega); intro v9 w9 ho hb hG hat; obtain ⟨Kb, hKb⟩ : ∃ Kb, Kb = Ka ++ [key] := ⟨_, rfl⟩; rw [← hKb] at ho; have HKB := Aside0.mk hKb; obtain ⟨A10, c10, rfl⟩ := Kd.R_slice ho; have HN9 := Aside0.mk (show RowS Kd.string 9 w3.heap.size w9 (.slice A10 Kb.length c10) Kb from rowS_s ho); have HB9 := Aside0.mk hb; have HG9 := Aside0.mk hG; have HAT := Aside0.mk hat; have hq8 := blk_grown HQA.out HXA.out (by decide) hG; obtain ⟨k0, k1, k2, k3⟩ := cells_of hq8; have e1 := frz_of hq8 1; have HQ89 := Aside0.mk hq8; clear ho hb hG hat hq8 hKb))
        have hKb := HKB.out
        clear HKB
        have hq8 := blk_put (cs' := #[.bool false, .slice A10 Kb.length c10, .slice A8 Vo.length c8, .slice A9 Do.length c9]) HQ89.out 1 (.slice A10 Kb.length c10) rfl
        have hx1 := HN9.out.set1 (j := 1) HQ89.out (by decide) (.slice A10 Kb.length c10)
        have hx4 := (RowS.grown HXB.out HG9.out (Sep.symm HSP.out)).set1 (j := 1) HQ89.out (by decide) (.slice A10 Kb.length c10)
        have hx7 := (RowS.grown HXC.out HG9.out (sep_types HXC.out HXA.out (by decide))).set1 (j := 1) HQ89.out (by decide) (.slice A10 Kb.length c10)
        have hsp := sep_next HAT.out HSP.out (RowS.lt HXB.out)
        have hbb : Below w3.heap.size w3 (w9.setCell ⟨g8, 1, none⟩ (.slice A10 Kb.length c10)) := HB9.out.setCell HG8.out _
        generalize w9.setCell ⟨g8, 1, none⟩ (.slice A10 Kb.length c10) = wA at hq8 hx1 hx4 hx7 hbb ⊢
        have HNK' := Aside0.mk (show Kb.length ≤ 301 by rw [hKb, List.length_append, ← HNKa.out]; have := HNK.out; simp; omega)
        have HKb := Aside0.mk (show Kb = K1 ++ [key] by rw [hKb, HKa.out])
        clear HNK HNKa HKa HX1 HX4 HX7 HQ8 HB7 HXA HXB HXC HQA HBA HKY HN9 HAT HG9 HB9 HQ89 z0 t1 i0 i1 i2 i3 k0 k1 k2 k3 e1 hKb
        clear HSP
        have HNK := HNK'
        clear HNK'
        obtain ⟨nb, hnb⟩ : ∃ nb, nb = Kb.length := ⟨_, rfl⟩
        rw [← hnb] at hq8 hx1 hsp HNK ⊢
        have HNKa := Aside0.mk hnb
        obtain ⟨i0, i1, i2, i3⟩ := cells_of hq8
        have t1 := (cells_of (blk_below HQ5c.out hbb)).2.1
        have HQ8 := Aside0.mk hq8
        have HX1 := Aside0.mk hx1
        have HX4 := Aside0.mk hx4
        have HX7 := Aside0.mk hx7
        have HB7 := Aside0.mk hbb
        have HSP := Aside0.mk hsp
        clear hq8 hx1 hx4 hx7 hbb hsp hnb
        obtain ⟨Ka, hKaa⟩ : ∃ Ka, Ka = Kb := ⟨_, rfl⟩
        have HKa := Aside0.mk (show Ka = K1 ++ btw false key by rw [hKaa]; exact HKb.out)
        rw [← hKaa] at HX1 HNKa
        obtain ⟨nk, hnkk⟩ : ∃ nk, nk = nb := ⟨_, rfl⟩
        rw [← hnkk] at HX1 HQ8 HNKa HSP HNK i1 ⊢
        clear hKaa hnkk
        obtain ⟨A7, hA7⟩ : ∃ A, A = A10 := ⟨_, rfl⟩
        rw [← hA7] at HX1 HQ8 HSP i1 ⊢
        obtain ⟨c7, hc7⟩ : ∃ c, c = c10 := ⟨_, rfl⟩
        rw [← hc7] at HX1 HQ8 HSP i1 ⊢
        obtain ⟨w7, hw7⟩ : ∃ w, w = wA := ⟨_, rfl⟩
        rw [← hw7] at HX1 HX4 HX7 HQ8 HB7 i0 i1 i2 i3 t1 ⊢
        clear hA7 hc7 hw7
        go_upto_region 7 with (first
          | ((with_reducible refine gate_dst (N := 59) rfl ?_); at_builtin; refine Kd.R_append_rows Kd.string (w0 := w3) w3.heap.size rfl (.tmp 56) (.tmp 58) 22 9 (.string ⟨#[]⟩) 16 rfl Try.underlying22 INF9.out rfl (by decide) (by decide) (.slice A7 nk c7) Ka K2 a4 n4 c4 tt (fun _ => False) rfl rfl (RowS.tt HX1.out) ((HCB.out w7 (HB3.out.trans (HB7.out.mono HB3.out.size))).1) (fun _ _ h => h) (fun _ h => h.elim) (fun _ _ => trivial) HB7.out (HB7.out).size ?hl ?_; (case hl => have h1 := HNK.out; have h4 := HNKa.out; have h2 := HL.out; have h3 := HN.out; simp; omega); intro v9 w9 ho hb hG hat; obtain ⟨Kb, hKb⟩ : ∃ Kb, Kb = Ka ++ K2 := ⟨_, rfl⟩; rw [← hKb] at ho; have HKB := Aside0.mk hKb; obtain ⟨A10, c10, rfl⟩ := Kd.R_slice ho; have HN9 := Aside0.mk (show RowS Kd.string 9 w3.heap.size w9 (.slice A10 Kb.length c10) Kb from rowS_s ho); have HB9 := Aside0.mk hb; have HG9 := Aside0.mk hG; have HAT := Aside0.mk hat; have hq8 := blk_grown HQ8.out HX1.out (by decide) hG; obtain ⟨k0, k1, k2, k3⟩ := cells_of hq8; have e1 := frz_of hq8 1; have HQ89 := Aside0.mk hq8; clear ho hb hG hat hq8 hKb))
        have hKb := HKB.out
        clear HKB
        have hq8 := blk_put (cs' := #[.bool false, .slice A10 Kb.length c10, .slice A8 Vo.length c8, .slice A9 Do.length c9]) HQ89.out 1 (.slice A10 Kb.length c10) rfl
        have hx1 := HN9.out.set1 (j := 1) HQ89.out (by decide) (.slice A10 Kb.length c10)
        have hx4 := (RowS.grown HX4.out HG9.out (Sep.symm HSP.out)).set1 (j := 1) HQ89.out (by decide) (.slice A10 Kb.length c10)
        have hx7 := (RowS.grown HX7.out HG9.out (sep_types HX7.out HX1.out (by decide))).set1 (j := 1) HQ89.out (by decide) (.slice A10 Kb.length c10)
        have hsp := sep_next HAT.out HSP.out (RowS.lt HX4.out)
        have hbb : Below w3.heap.size w3 (w9.setCell ⟨g8, 1, none⟩ (.slice A10 Kb.length c10)) := HB9.out.setCell HG8.out _
        generalize w9.setCell ⟨g8, 1, none⟩ (.slice A10 Kb.length c10) = wA at hq8 hx1 hx4 hx7 hbb ⊢
        have HKo := Aside0.mk (show Kb = outK false K1 key K2 by rw [hKb, HKa.out]; unfold outK; rw [List.append_assoc])
        have HNK2 := Aside0.mk (show Kb.length ≤ 1000 by rw [hKb, List.length_append, ← HNKa.out]; have := HNK.out; have := HL.out; omega)
        clear hKb hsp
        have HMO := Aside0.mk (show MergeP false K1 V1 D1 key false K2 V2 D2 ↔ CanP false Kb Vo Do ∧ needTo false Kb Vo Kb.length ≤ 509 by
          rw [HKo.out, HE.out.1, HE.out.2]
          exact ⟨fun h => h.2.2.2, fun h => ⟨HR.out.1.1 (by first | rfl | trivial), HR.out.2.1 (by first | rfl | trivial), rfl, h⟩⟩)
        have HM' := Aside0.mk (show m = true ↔ MergeP false K1 V1 D1 key false K2 V2 D2 from HM.out)
        have HLK := Aside0.mk (show Kb.length ≤ 100000 ∧ Vo.length ≤ 100000 ∧ Do.length ≤ 100000 by
          have h := HL.out
          have h2 := HNK2.out
          rw [HE.out.1, HE.out.2]
          simp
          omega)
        have hq6 := blk_below HQ6c.out hbb
        have hb7 := HB3.out.trans (hbb.mono HB3.out.size)
        have HX1' := Aside0.mk hx1
        have HX4' := Aside0.mk hx4
        have HX7' := Aside0.mk hx7
        have HQ9 := Aside0.mk hq8
        have HQ6d := Aside0.mk hq6
        have HBW := Aside0.mk hb7
        have hbk : Bk wA ⟨A10, c10, A8, c8, A9, c9⟩ false Kb Vo Do := bkS_of HX1'.out HX4'.out HX7'.out
        clear i0 i1 i2 i3 k0 k1 k2 k3 e1 t1
        try clear z0
        obtain ⟨i0, i1, i2, i3⟩ := cells_of hq8
        clear hx1 hx4 hx7 hq8 hq6 hb7 hbb
        obtain ⟨r3, hr3⟩ := is_bool (CanP false Kb Vo Do)
        have hc3 := rcan_c hbk (by have := HLK.out; omega) r3 hr3
        have HBK := Aside0.mk hbk
        have HC3 := Aside0.mk hc3
        have HR3 := Aside0.mk hr3
        dsimp only at HC3
        clear hbk hr3 hc3
        cases r3 with
        | false =>
          go_wp2_with (go_at_call 9; refine HC3.out.mono ?_; rintro e w8 ⟨rfl, h1⟩; have HB8 := Aside0.mk (HBW.out.trans (h1.mono HBW.out.size)); have hq6 := blk_below HQ6d.out h1; obtain ⟨y0, y1, y2, y3⟩ := cells_of hq6; have f0 := frz_of hq6 0; have f1 := frz_of hq6 1; have f2 := frz_of hq6 2; have f3 := frz_of hq6 3; have HQ6e := Aside0.mk hq6; clear h1 hq6)
          have hm : m = false := by
            cases m with
            | false => rfl
            | true => exact absurd (HR3.out.2 (HMO.out.1 (HM'.out.1 rfl)).1) (by decide)
          subst hm
          refine bodyPost_ret (results_ct rfl _ _ g6 25 #[.bool false, .slice none 0 0, .slice none 0 0, .slice none 0 0] (0, 0) _ rfl (set4_blk HQ6e.out _ _ _ _) Try.underlying25 rfl (by kernel_rfl)) rfl ?_
          exact ⟨p0, rfl, BkR.none _ _, set4_below HB8.out HG6.out _ _ _ _⟩
        | true =>
          have hsm := small_can (HR3.out.1 rfl) HLK.out.1 HLK.out.2.1
          have HSM := Aside0.mk hsm
          clear hsm
          obtain ⟨N, hN⟩ : ∃ N, N = needTo false Kb Vo Kb.length := ⟨_, rfl⟩
          have hnd := fun (w : World) (h : Below wA.heap.size wA w) => rneed_c (HBK.out.below h) HSM.out.1 HSM.out.2.1 Kb.length (Nat.le_refl _)
          rw [← hN] at hnd
          dsimp only at hnd
          have HND := Aside0.mk hnd
          have HNN := Aside0.mk hN
          clear hnd hN
          by_cases hlim : N ≤ 509
          · have e1 : decide ((509 : Int) < N) = false := decide_eq_false (by omega)
            go_wp2_with (first
              | (go_at_call 20; refine (HND.out w8 HS8.out).mono ?_; rintro e w10 ⟨rfl, h1⟩; have HB9' := Aside0.mk (HB8.out.trans (h1.mono HB8.out.size)); have HS9 := Aside0.mk (HS8.out.trans (h1.mono HS8.out.size)); have hq6 := blk_below HQ6e.out h1; have hq9 := blk_below HQ9e.out h1; obtain ⟨m0, m1, m2, m3⟩ := cells_of hq9; obtain ⟨y0, y1, y2, y3⟩ := cells_of hq6; have f0 := frz_of hq6 0; have f1 := frz_of hq6 1; have f2 := frz_of hq6 2; have f3 := frz_of hq6 3; have HQ6f := Aside0.mk hq6; clear h1 hq6 hq9)
              | (go_at_call 9; refine HC3.out.mono ?_; rintro e w8 ⟨rfl, h1⟩; have HB8 := Aside0.mk (HBW.out.trans (h1.mono HBW.out.size)); have HS8 := Aside0.mk h1; have hq6 := blk_below HQ6d.out h1; have hq9 := blk_below HQ9.out h1; obtain ⟨l0, l1, l2, l3⟩ := cells_of hq9; have HQ6e := Aside0.mk hq6; have HQ9e := Aside0.mk hq9; clear h1 hq6 hq9))
            have hm : m = true := HM'.out.2 (HMO.out.2 ⟨HR3.out.1 (by first | rfl | trivial), by rw [← HNN.out]; exact hlim⟩)
            subst hm
            refine bodyPost_ret (results_ct rfl _ _ g6 25 #[.bool false, .slice A10 Kb.length c10, .slice A8 Vo.length c8, .slice A9 Do.length c9] (0, 0) _ rfl (set4_blk HQ6f.out _ _ _ _) Try.underlying25 rfl (by kernel_rfl)) rfl ?_
            refine ⟨⟨A10, c10, A8, c8, A9, c9⟩, ?_, ?_, set4_below HB9'.out HG6.out _ _ _ _⟩
            · rw [← HKo.out, ← HE.out.1, ← HE.out.2]
              rfl
            · rw [← HKo.out, ← HE.out.1, ← HE.out.2]
              exact BkR.lower ⟨RowS.tt (RowS.set4 (HX1'.out.below HS9.out) HQ6f.out (by decide) _ _ _ _), RowS.tt (RowS.set4 (HX4'.out.below HS9.out) HQ6f.out (by decide) _ _ _ _), RowS.tt (RowS.set4 (HX7'.out.below HS9.out) HQ6f.out (by decide) _ _ _ _)⟩ HB3.out.size
          · have e1 : decide ((509 : Int) < N) = true := decide_eq_true (by omega)
            go_wp2_with (first
              | (go_at_call 20; refine (HND.out w8 HS8.out).mono ?_; rintro e w10 ⟨rfl, h1⟩; have HB9' := Aside0.mk (HB8.out.trans (h1.mono HB8.out.size)); have hq6 := blk_below HQ6e.out h1; obtain ⟨y0, y1, y2, y3⟩ := cells_of hq6; have f0 := frz_of hq6 0; have f1 := frz_of hq6 1; have f2 := frz_of hq6 2; have f3 := frz_of hq6 3; have HQ6f := Aside0.mk hq6; clear h1 hq6)
              | (go_at_call 9; refine HC3.out.mono ?_; rintro e w8 ⟨rfl, h1⟩; have HB8 := Aside0.mk (HBW.out.trans (h1.mono HBW.out.size)); have HS8 := Aside0.mk h1; have hq6 := blk_below HQ6d.out h1; have hq9 := blk_below HQ9.out h1; obtain ⟨l0, l1, l2, l3⟩ := cells_of hq9; have HQ6e := Aside0.mk hq6; clear h1 hq6 hq9))
            have hm : m = false := by
              cases m with
              | false => rfl
              | true => exact absurd (by have h := (HMO.out.1 (HM'.out.1 rfl)).2; rw [← HNN.out] at h; have := hlim; omega : false = true) (by decide)
            subst hm
            refine bodyPost_ret (results_ct rfl _ _ g6 25 #[.bool false, .slice none 0 0, .slice none 0 0, .slice none 0 0] (0, 0) _ rfl (set4_blk HQ6f.out _ _ _ _) Try.underlying25 rfl (by kernel_rfl)) rfl ?_
            exact ⟨p0, rfl, BkR.none _ _, set4_below HB9'.out HG6.out _ _ _ _⟩
     | true =>
      go_wp2_with (first
        | (go_at_call 9; first
        | (refine (HC2.out w1 HB1.out).mono ?_; rintro e w3 ⟨rfl, h1⟩; have HB3 := Aside0.mk (HB1.out.trans (h1.mono HB1.out.size)); have hq3 := blk_below HQ3a.out h1; have hq5 := blk_below HQ5a.out h1; have hq6 := blk_below HQ6a.out h1; obtain ⟨z0, z1, z2, z3⟩ := cells_of hq3; obtain ⟨t0, t1, t2, t3⟩ := cells_of hq5; obtain ⟨y0, y1, y2, y3⟩ := cells_of hq6; have f0 := frz_of hq6 0; have f1 := frz_of hq6 1; have f2 := frz_of hq6 2; have f3 := frz_of hq6 3; have HQ3c := Aside0.mk hq3; have HQ5c := Aside0.mk hq5; have HQ6c := Aside0.mk hq6; clear h1 hq3 hq5 hq6)
        | (refine (HC1.out w0 HB0.out).mono ?_; rintro e w1 ⟨rfl, h1⟩; have HB1 := Aside0.mk (HB0.out.trans (h1.mono HB0.out.size)); have hq3 := blk_below HQ3.out h1; have hq5 := blk_below HQ5.out h1; have hq6 := blk_below HQ6.out h1; obtain ⟨s0, s1, s2, s3⟩ := cells_of hq5; have HQ3a := Aside0.mk hq3; have HQ5a := Aside0.mk hq5; have HQ6a := Aside0.mk hq6; clear h1 hq3 hq5 hq6)))
      have hm : m = false := by
        cases m with
        | false => rfl
        | true => exact absurd (HM.out.1 rfl).2.2.1 (by decide)
      subst hm
      refine bodyPost_ret (results_ct rfl _ _ g6 25 #[.bool false, .slice none 0 0, .slice none 0 0, .slice none 0 0] (0, 0) _ rfl (set4_blk HQ6c.out _ _ _ _) Try.underlying25 rfl (by kernel_rfl)) rfl ?_
      exact ⟨p0, rfl, BkR.none _ _, set4_below HB3.out HG6.out _ _ _ _⟩
    | true =>
     cases b2 with
     | false =>
      go_wp2_with (first
        | (go_at_call 9; first
        | (refine (HC2.out w1 HB1.out).mono ?_; rintro e w3 ⟨rfl, h1⟩; have HB3 := Aside0.mk (HB1.out.trans (h1.mono HB1.out.size)); have hq3 := blk_below HQ3a.out h1; have hq5 := blk_below HQ5a.out h1; have hq6 := blk_below HQ6a.out h1; obtain ⟨z0, z1, z2, z3⟩ := cells_of hq3; obtain ⟨t0, t1, t2, t3⟩ := cells_of hq5; obtain ⟨y0, y1, y2, y3⟩ := cells_of hq6; have f0 := frz_of hq6 0; have f1 := frz_of hq6 1; have f2 := frz_of hq6 2; have f3 := frz_of hq6 3; have HQ3c := Aside0.mk hq3; have HQ5c := Aside0.mk hq5; have HQ6c := Aside0.mk hq6; clear h1 hq3 hq5 hq6)
        | (refine (HC1.out w0 HB0.out).mono ?_; rintro e w1 ⟨rfl, h1⟩; have HB1 := Aside0.mk (HB0.out.trans (h1.mono HB0.out.size)); have hq3 := blk_below HQ3.out h1; have hq5 := blk_below HQ5.out h1; have hq6 := blk_below HQ6.out h1; obtain ⟨s0, s1, s2, s3⟩ := cells_of hq5; have HQ3a := Aside0.mk hq3; have HQ5a := Aside0.mk hq5; have HQ6a := Aside0.mk hq6; clear h1 hq3 hq5 hq6)))
      have hm : m = false := by
        cases m with
        | false => rfl
        | true => exact absurd (HM.out.1 rfl).2.2.1 (by decide)
      subst hm
      refine bodyPost_ret (results_ct rfl _ _ g6 25 #[.bool false, .slice none 0 0, .slice none 0 0, .slice none 0 0] (0, 0) _ rfl (set4_blk HQ6c.out _ _ _ _) Try.underlying25 rfl (by kernel_rfl)) rfl ?_
      exact ⟨p0, rfl, BkR.none _ _, set4_below HB3.out HG6.out _ _ _ _⟩
     | true =>
      go_upto_region 3 with (first
        | (go_at_call 9; first
              | (refine (HC2.out w1 HB1.out).mono ?_; rintro e w3 ⟨rfl, h1⟩; have HB3 := Aside0.mk (HB1.out.trans (h1.mono HB1.out.size)); have hq3 := blk_below HQ3a.out h1; have hq5 := blk_below HQ5a.out h1; have hq6 := blk_below HQ6a.out h1; obtain ⟨z0, z1, z2, z3⟩ := cells_of hq3; obtain ⟨t0, t1, t2, t3⟩ := cells_of hq5; obtain ⟨y0, y1, y2, y3⟩ := cells_of hq6; have f0 := frz_of hq6 0; have f1 := frz_of hq6 1; have f2 := frz_of hq6 2; have f3 := frz_of hq6 3; have HQ3c := Aside0.mk hq3; have HQ5c := Aside0.mk hq5; have HQ6c := Aside0.mk hq6; clear h1 hq3 hq5 hq6)
              | (refine (HC1.out w0 HB0.out).mono ?_; rintro e w1 ⟨rfl, h1⟩; have HB1 := Aside0.mk (HB0.out.trans (h1.mono HB0.out.size)); have hq3 := blk_below HQ3.out h1; have hq5 := blk_below HQ5.out h1; have hq6 := blk_below HQ6.out h1; obtain ⟨s0, s1, s2, s3⟩ := cells_of hq5; have HQ3a := Aside0.mk hq3; have HQ5a := Aside0.mk hq5; have HQ6a := Aside0.mk hq6; clear h1 hq3 hq5 hq6)))
      have info9 : (Try.prog.info? 9).map (fun i => (i.zero, i.size, i.bytes)) = some (some (.string ⟨#[]⟩), 1, 16) := by kernel_rfl
      have info3 : (Try.prog.info? 3).map (fun i => (i.zero, i.size, i.bytes)) = some (some (.int .i64 0), 1, 8) := by kernel_rfl
      have INF9 := Aside0.mk info9
      have INF3 := Aside0.mk info3
      have HCA := Aside0.mk (show ∀ w, Below W.heap.size W w → Kd.C Kd.string w a1 n1 K1 ∧ Kd.C Kd.string w a2 n2 V1 ∧ Kd.C (Kd.int .i64) w a3 n3 D1 from fun w hw => by
        have h := HK1.out.below hw
        have hn := HN.out
        rw [hn.1, hn.2.1, hn.2.2.1]
        exact ⟨h.k, h.v, h.d⟩)
      have HCB := Aside0.mk (show ∀ w, Below W.heap.size W w → Kd.C Kd.string w a4 n4 K2 ∧ Kd.C Kd.string w a5 n5 V2 ∧ Kd.C (Kd.int .i64) w a6 n6 D2 from fun w hw => by
        have h := HK2.out.below hw
        have hn := HN.out
        rw [hn.2.2.2.1, hn.2.2.2.2.1, hn.2.2.2.2.2]
        exact ⟨h.k, h.v, h.d⟩)
      clear info9 info3 z0 z1 z2 z3 t0 t1 t2 t3 y0 y1 y2 y3 f0 f1 f2 f3 s0 s1 s2 s3 x0 x1 x2 x3
      have hdr : Below w3.heap.size w3 w3.drew := below_drew (Below.refl _ _)
      refine start_ (n := 23) (S := fun w' => Below w3.heap.size w3 w') (ds := []) #[false, false, false, false, false, false, false, false, false, false, false, false, false, false, false, false, false, false, false, false, false, false, false] (by kernel_rfl) rfl rfl hdr (fun hHeld => ?_)
      refine pure_ (i := 0) (N := some 25) (v := ?_) (a' := ?_) #[true, false, false, false, false, false, false, false, false, false, false, false, false, false, false, false, false, false, false, false, false, false, false] rfl rfl (by kernel_rfl) (fun _ _ _ h => h) (Or.inl ⟨by rfl, ?_⟩) ?_ ?_
      rotate_left
      · intro w'
        go_simp
        with_reducible rfl
      rotate_left
      · simp only [Act.put, List.setIfInBounds_toArray, List.set_cons_zero, List.set_cons_succ]
        rfl
      refine pure_ (i := 3) (N := some 28) (v := ?_) (a' := ?_) #[true, false, false, true, false, false, false, false, false, false, false, false, false, false, false, false, false, false, false, false, false, false, false] rfl rfl (by kernel_rfl) (fun _ _ _ h => h) (Or.inl ⟨by rfl, ?_⟩) ?_ ?_
      rotate_left
      · intro w'
        go_simp
        with_reducible rfl
      rotate_left
      · simp only [Act.put, List.setIfInBounds_toArray, List.set_cons_zero, List.set_cons_succ]
        rfl
      refine pure_ (i := 7) (N := some 32) (v := ?_) (a' := ?_) #[true, false, false, true, false, false, false, true, false, false, false, false, false, false, false, false, false, false, false, false, false, false, false] rfl rfl (by kernel_rfl) (fun _ _ _ h => h) (Or.inl ⟨by rfl, ?_⟩) ?_ ?_
      rotate_left
      · intro w'
        go_simp
        with_reducible rfl
      rotate_left
      · simp only [Act.put, List.setIfInBounds_toArray, List.set_cons_zero, List.set_cons_succ]
        rfl
      refine pure_ (i := 10) (N := some 35) (v := ?_) (a' := ?_) #[true, false, false, true, false, false, false, true, false, false, true, false, false, false, false, false, false, false, false, false, false, false, false] rfl rfl (by kernel_rfl) (fun _ _ _ h => h) (Or.inl ⟨by rfl, ?_⟩) ?_ ?_
      rotate_left
      · intro w'
        go_simp
        with_reducible rfl
      rotate_left
      · simp only [Act.put, List.setIfInBounds_toArray, List.set_cons_zero, List.set_cons_succ]
        rfl
      refine pure_ (i := 14) (N := some 39) (v := ?_) (a' := ?_) #[true, false, false, true, false, false, false, true, false, false, true, false, false, false, true, false, false, false, false, false, false, false, false] rfl rfl (by kernel_rfl) (fun _ _ _ h => h) (Or.inl ⟨by rfl, ?_⟩) ?_ ?_
      rotate_left
      · intro w'
        go_simp
        with_reducible rfl
      rotate_left
      · simp only [Act.put, List.setIfInBounds_toArray, List.set_cons_zero, List.set_cons_succ]
        rfl
      refine pure_ (i := 17) (N := some 42) (v := ?_) (a' := ?_) #[true, false, false, true, false, false, false, true, false, false, true, false, false, false, true, false, false, true, false, false, false, false, false] rfl rfl (by kernel_rfl) (fun _ _ _ h => h) (Or.inl ⟨by rfl, ?_⟩) ?_ ?_
      rotate_left
      · intro w'
        go_simp
        with_reducible rfl
      rotate_left
      · simp only [Act.put, List.setIfInBounds_toArray, List.set_cons_zero, List.set_cons_succ]
        rfl
      refine take_ (i := 1) (N := some 26) (v := ?_) (a' := ?_) #[true, true, false, true, false, false, false, true, false, false, true, false, false, false, true, false, false, true, false, false, false, false, false] rfl rfl (by kernel_rfl) (fun _ _ _ h => h) (Or.inl ⟨by rfl, ?_⟩) hHeld ?_ ?_
      rotate_left
      · intro w' s0
        have s1 := (cells_of (blk_below HQ3c.out s0)).1
        go_simp
        with_reducible rfl
      rotate_left
      · simp only [Act.put, List.setIfInBounds_toArray, List.set_cons_zero, List.set_cons_succ]
        rfl
      refine take_ (i := 4) (N := some 29) (v := ?_) (a' := ?_) #[true, true, false, true, true, false, false, true, false, false, true, false, false, false, true, false, false, true, false, false, false, false, false] rfl rfl (by kernel_rfl) (fun _ _ _ h => h) (Or.inl ⟨by rfl, ?_⟩) hHeld ?_ ?_
      rotate_left
      · intro w' s0
        have s1 := (cells_of (blk_below HQ3c.out s0)).2.1
        go_simp
        with_reducible rfl
      rotate_left
      · simp only [Act.put, List.setIfInBounds_toArray, List.set_cons_zero, List.set_cons_succ]
        rfl
      refine take_ (i := 8) (N := some 33) (v := ?_) (a' := ?_) #[true, true, false, true, true, false, false, true, true, false, true, false, false, false, true, false, false, true, false, false, false, false, false] rfl rfl (by kernel_rfl) (fun _ _ _ h => h) (Or.inl ⟨by rfl, ?_⟩) hHeld ?_ ?_
      rotate_left
      · intro w' s0
        have s1 := (cells_of (blk_below HQ3c.out s0)).2.2.1
        go_simp
        with_reducible rfl
      rotate_left
      · simp only [Act.put, List.setIfInBounds_toArray, List.set_cons_zero, List.set_cons_succ]
        rfl
      refine take_ (i := 11) (N := some 36) (v := ?_) (a' := ?_) #[true, true, false, true, true, false, false, true, true, false, true, true, false, false, true, false, false, true, false, false, false, false, false] rfl rfl (by kernel_rfl) (fun _ _ _ h => h) (Or.inl ⟨by rfl, ?_⟩) hHeld ?_ ?_
      rotate_left
      · intro w' s0
        have s1 := (cells_of (blk_below HQ5c.out s0)).2.2.1
        go_simp
        with_reducible rfl
      rotate_left
      · simp only [Act.put, List.setIfInBounds_toArray, List.set_cons_zero, List.set_cons_succ]
        rfl
      refine take_ (i := 15) (N := some 40) (v := ?_) (a' := ?_) #[true, true, false, true, true, false, false, true, true, false, true, true, false, false, true, true, false, true, false, false, false, false, false] rfl rfl (by kernel_rfl) (fun _ _ _ h => h) (Or.inl ⟨by rfl, ?_⟩) hHeld ?_ ?_
      rotate_left
      · intro w' s0
        have s1 := (cells_of (blk_below HQ3c.out s0)).2.2.2
        go_simp
        with_reducible rfl
      rotate_left
      · simp only [Act.put, List.setIfInBounds_toArray, List.set_cons_zero, List.set_cons_succ]
        rfl
      refine take_ (i := 18) (N := some 43) (v := ?_) (a' := ?_) #[true, true, false, true, true, false, false, true, true, false, true, true, false, false, true, true, false, true, true, false, false, false, false] rfl rfl (by kernel_rfl) (fun _ _ _ h => h) (Or.inl ⟨by rfl, ?_⟩) hHeld ?_ ?_
      rotate_left
      · intro w' s0
        have s1 := (cells_of (blk_below HQ5c.out s0)).2.2.2
        go_simp
        with_reducible rfl
      rotate_left
      · simp only [Act.put, List.setIfInBounds_toArray, List.set_cons_zero, List.set_cons_succ]
        rfl
      refine lattice3 (l0 := #[true, true, false, true, true, false, false, true, true, false, true, true, false, false, true, true, false, true, true, false, false, false, false]) [2, 5, 6, 9, 12, 13, 16, 19, 21, 20] [[false, false, false, false, false, false, false, false, false, false], [true, false, false, false, false, false, false, false, false, false], [true, true, false, false, false, false, false, false, false, false], [false, false, true, false, false, false, false, false, false, false], [true, false, true, false, false, false, false, false, false, false], [true, true, true, false, false, false, false, false, false, false], [true, true, true, true, false, false, false, false, false, false], [true, true, true, true, true, false, false, false, false, false], [false, false, false, false, false, true, false, false, false, false], [true, false, false, false, false, true, false, false, false, false], [true, true, false, false, false, true, false, false, false, false], [false, false, true, false, false, true, false, false, false, false], [true, false, true, false, false, true, false, false, false, false], [true, true, true, false, false, true, false, false, false, false], [true, true, true, true, false, true, false, false, false, false], [true, true, true, true, true, true, false, false, false, false], [true, true, true, true, true, true, true, false, false, false], [true, true, true, true, true, true, true, true, false, false], [false, false, false, false, false, false, false, false, true, false], [true, false, false, false, false, false, false, false, true, false], [true, true, false, false, false, false, false, false, true, false], [false, false, true, false, false, false, false, false, true, false], [true, false, true, false, false, false, false, false, true, false], [true, true, true, false, false, false, false, false, true, false], [true, true, true, true, false, false, false, false, true, false], [true, true, true, true, true, false, false, false, true, false], [false, false, false, false, false, true, false, false, true, false], [true, false, false, false, false, true, false, false, true, false], [true, true, false, false, false, true, false, false, true, false], [false, false, true, false, false, true, false, false, true, false], [true, false, true, false, false, true, false, false, true, false], [true, true, true, false, false, true, false, false, true, false], [true, true, true, true, false, true, false, false, true, false], [true, true, true, true, true, true, false, false, true, false], [true, true, true, true, true, true, true, false, true, false], [true, true, true, true, true, true, true, true, true, false], [true, true, true, true, true, true, true, true, false, true], [true, true, true, true, true, true, true, true, true, true]] [27, 30, 31, 34, 37, 38, 41, 44, 8, 45] (by kernel_rfl) (by kernel_rfl) (by decide) (by kernel_rfl) (by kernel_rfl) (by kernel_rfl) (fun d xs w' => ∃ x0 x1 x2 x3 x4 x5 x6 x7 x8 x9, xs = [x0, x1, x2, x3, x4, x5, x6, x7, x8, x9] ∧ (d.getD 0 false = true → d.getD 1 true = false → RowS Kd.string 9 w3.heap.size w' x0 ([] : List ByteArray)) ∧ (d.getD 1 false = true → RowS Kd.string 9 w3.heap.size w' x1 K1) ∧ (d.getD 2 false = true → d.getD 3 true = false → RowS Kd.string 9 w3.heap.size w' x2 ([] : List ByteArray)) ∧ (d.getD 3 false = true → d.getD 4 true = false → RowS Kd.string 9 w3.heap.size w' x3 V1) ∧ (d.getD 4 false = true → RowS Kd.string 9 w3.heap.size w' x4 (V1 ++ V2)) ∧ (d.getD 5 false = true → d.getD 6 true = false → RowS (Kd.int .i64) 3 w3.heap.size w' x5 ([] : List Int)) ∧ (d.getD 6 false = true → d.getD 7 true = false → RowS (Kd.int .i64) 3 w3.heap.size w' x6 D1) ∧ (d.getD 7 false = true → RowS (Kd.int .i64) 3 w3.heap.size w' x7 (D1 ++ D2)) ∧ (d.getD 0 false = true → d.getD 2 false = true → Sep x0 x2) ∧ (d.getD 1 false = true → d.getD 2 false = true → Sep x1 x2) ∧ (d.getD 1 false = true → d.getD 3 false = true → Sep x1 x3) ∧ (d.getD 1 false = true → d.getD 4 false = true → Sep x1 x4) ∧ (d.getD 0 false = true → Lt w' x0) ∧ (d.getD 1 false = true → Lt w' x1) ∧ (d.getD 2 false = true → Lt w' x2) ∧ (d.getD 8 false = true → BoxAt w3.heap.size w' x8 #[.bool false, .slice none 0 0, .slice none 0 0, .slice none 0 0]) ∧ (d.getD 9 false = true → x9 = .agg #[.bool true, x1, x4, x7])) 1 rfl (by kernel_rfl) hHeld ?hF ?hstep ?hfin
      case hF =>
        intro xs hx
        match xs, hx with
        | [x0, x1, x2, x3, x4, x5, x6, x7, x8, x9], _ => exact ⟨x0, x1, x2, x3, x4, x5, x6, x7, x8, x9, rfl, fun h _ => absurd h (by decide), fun h => absurd h (by decide), fun h _ => absurd h (by decide), fun h _ => absurd h (by decide), fun h => absurd h (by decide), fun h _ => absurd h (by decide), fun h _ => absurd h (by decide), fun h => absurd h (by decide), fun h _ => absurd h (by decide), fun h _ => absurd h (by decide), fun h _ => absurd h (by decide), fun h _ => absurd h (by decide), fun h => absurd h (by decide), fun h => absurd h (by decide), fun h => absurd h (by decide), fun h => absurd h (by decide), fun h => absurd h (by decide)⟩
      case hstep =>
        intro j hj
        have hj : j < 10 := hj
        rcases (by omega : j = 0 ∨ j = 1 ∨ j = 2 ∨ j = 3 ∨ j = 4 ∨ j = 5 ∨ j = 6 ∨ j = 7 ∨ j = 8 ∨ j = 9) with rfl | rfl | rfl | rfl | rfl | rfl | rfl | rfl | rfl | rfl
        · intro d hd hjn hn xs wl hx hSl ⟨x0, x1, x2, x3, x4, x5, x6, x7, x8, x9, hxs, fr0, fr1, fr2, fr3, fr4, fr5, fr6, fr7, fs0_2, fs1_2, fs1_3, fs1_4, ft0, ft1, ft2, fbx, fbd⟩ a' ha o ho K hK
          subst hxs
          obtain rfl := Option.some.inj (ho.symm.trans (rfl : _ = some _))
          simp only [putVs, Act.put, List.setIfInBounds_toArray, List.set_cons_zero, List.set_cons_succ] at ha
          subst ha
          refine Kd.R_lit_step Kd.string w3.heap.size 9 ?hg (N := 27) ?hd (xs := ([] : List ByteArray)) (inner := []) (ok := tt) (okp := tt) ?hr ?hp (fun _ hk => hk) trivial hSl hSl.size (by simp) ?_; (case hd => rfl); (case hg => rfl); (case hr => first | (go_simp; done) | (go_simp; rfl)); (case hp => exact (Reps.none _ _))
          intro v6 w6 ho hS6 hG hnew
          have hnewrow := rowS_s ho
          have hsz := hG.size
          exact hK.out _ _ hS6 ⟨_, _, _, _, _, _, _, _, _, _, rfl, fun h0 n1 => hnewrow, fun h1 => absurd ((on_ne d 0 1 (by decide)).symm.trans h1) (fun h2 => bit_abs (before_of (j := 0) (k := 1) (by kernel_rfl) hd hjn hn) h2), fun h2 n3 => RowS.grown0 (fr2 ((on_ne d 0 2 (by decide)).symm.trans h2) ((on_net d 0 3 (by decide)).symm.trans n3)) hG, fun h3 n4 => absurd ((on_ne d 0 3 (by decide)).symm.trans h3) (fun h2 => bit_abs (before_of (j := 0) (k := 3) (by kernel_rfl) hd hjn hn) h2), fun h4 => absurd ((on_ne d 0 4 (by decide)).symm.trans h4) (fun h2 => bit_abs (before_of (j := 0) (k := 4) (by kernel_rfl) hd hjn hn) h2), fun h5 n6 => RowS.grown0 (fr5 ((on_ne d 0 5 (by decide)).symm.trans h5) ((on_net d 0 6 (by decide)).symm.trans n6)) hG, fun h6 n7 => absurd ((on_ne d 0 6 (by decide)).symm.trans h6) (fun h2 => bit_abs (before_of (j := 0) (k := 6) (by kernel_rfl) hd hjn hn) h2), fun h7 => absurd ((on_ne d 0 7 (by decide)).symm.trans h7) (fun h2 => bit_abs (before_of (j := 0) (k := 7) (by kernel_rfl) hd hjn hn) h2), fun h0 h2 => (sep_fresh hnew (ft2 ((on_ne d 0 2 (by decide)).symm.trans h2))), fun h1 h2 => absurd ((on_ne d 0 1 (by decide)).symm.trans h1) (fun h2 => bit_abs (before_of (j := 0) (k := 1) (by kernel_rfl) hd hjn hn) h2), fun h1 h3 => absurd ((on_ne d 0 1 (by decide)).symm.trans h1) (fun h2 => bit_abs (before_of (j := 0) (k := 1) (by kernel_rfl) hd hjn hn) h2), fun h1 h4 => absurd ((on_ne d 0 1 (by decide)).symm.trans h1) (fun h2 => bit_abs (before_of (j := 0) (k := 1) (by kernel_rfl) hd hjn hn) h2), fun h0 => RowS.lt hnewrow, fun h1 => absurd ((on_ne d 0 1 (by decide)).symm.trans h1) (fun h2 => bit_abs (before_of (j := 0) (k := 1) (by kernel_rfl) hd hjn hn) h2), fun h2 => Lt.up (ft2 ((on_ne d 0 2 (by decide)).symm.trans h2)) hsz, fun h8 => BoxAt.grown0 (fbx ((on_ne d 0 8 (by decide)).symm.trans h8)) hG, fun h9 => absurd ((on_ne d 0 9 (by decide)).symm.trans h9) (fun h2 => bit_abs (before_of (j := 0) (k := 9) (by kernel_rfl) hd hjn hn) h2)⟩
        · intro d hd hjn hn xs wl hx hSl ⟨x0, x1, x2, x3, x4, x5, x6, x7, x8, x9, hxs, fr0, fr1, fr2, fr3, fr4, fr5, fr6, fr7, fs0_2, fs1_2, fs1_3, fs1_4, ft0, ft1, ft2, fbx, fbd⟩ a' ha o ho K hK
          subst hxs
          obtain rfl := Option.some.inj (ho.symm.trans (rfl : _ = some _))
          simp only [putVs, Act.put, List.setIfInBounds_toArray, List.set_cons_zero, List.set_cons_succ] at ha
          subst ha
          have g0 := fr0 (after_of (j := 1) (k := 0) (by kernel_rfl) hd hjn hn) hjn
          refine Kd.R_append_rows_step Kd.string (w0 := w3) w3.heap.size (by rfl) (.tmp 27) (.tmp 29) 22 9 (.string ⟨#[]⟩) 16 rfl Try.underlying22 INF9.out rfl (by decide) (by decide) x0 ([] : List ByteArray) K1 a1 n1 c1 tt (fun _ => False) rfl rfl (RowS.tt g0) ((HCA.out wl (HB3.out.trans (hSl.mono HB3.out.size))).1) (fun _ _ h => h) (fun _ h => h.elim) (fun _ _ => trivial) hSl hSl.size ?hl ?_
          case hl => have := HL.out; have := HN.out; simp; omega
          intro v6 w6 ho hS6 hG hat
          have hnewrow : RowS Kd.string 9 w3.heap.size w6 v6 K1 := rowS_s ho
          have hsz := hG.size
          exact hK.out _ _ hS6 ⟨_, _, _, _, _, _, _, _, _, _, rfl, fun h0 n1 => absurd n1 (by rw [on_att]; decide), fun h1 => hnewrow, fun h2 n3 => RowS.grown (fr2 ((on_ne d 1 2 (by decide)).symm.trans h2) ((on_net d 1 3 (by decide)).symm.trans n3)) hG (Sep.symm (fs0_2 (after_of (j := 1) (k := 0) (by kernel_rfl) hd hjn hn) ((on_ne d 1 2 (by decide)).symm.trans h2))), fun h3 n4 => absurd ((on_ne d 1 3 (by decide)).symm.trans h3) (fun h2 => bit_abs (before_of (j := 1) (k := 3) (by kernel_rfl) hd hjn hn) h2), fun h4 => absurd ((on_ne d 1 4 (by decide)).symm.trans h4) (fun h2 => bit_abs (before_of (j := 1) (k := 4) (by kernel_rfl) hd hjn hn) h2), fun h5 n6 => RowS.grown (fr5 ((on_ne d 1 5 (by decide)).symm.trans h5) ((on_net d 1 6 (by decide)).symm.trans n6)) hG (sep_types (fr5 ((on_ne d 1 5 (by decide)).symm.trans h5) ((on_net d 1 6 (by decide)).symm.trans n6)) g0 (by decide)), fun h6 n7 => absurd ((on_ne d 1 6 (by decide)).symm.trans h6) (fun h2 => bit_abs (before_of (j := 1) (k := 6) (by kernel_rfl) hd hjn hn) h2), fun h7 => absurd ((on_ne d 1 7 (by decide)).symm.trans h7) (fun h2 => bit_abs (before_of (j := 1) (k := 7) (by kernel_rfl) hd hjn hn) h2), fun h0 h2 => (fs0_2 (after_of (j := 1) (k := 0) (by kernel_rfl) hd hjn hn) ((on_ne d 1 2 (by decide)).symm.trans h2)), fun h1 h2 => (sep_next hat (fs0_2 (after_of (j := 1) (k := 0) (by kernel_rfl) hd hjn hn) ((on_ne d 1 2 (by decide)).symm.trans h2)) (ft2 ((on_ne d 1 2 (by decide)).symm.trans h2))), fun h1 h3 => absurd ((on_ne d 1 3 (by decide)).symm.trans h3) (fun h2 => bit_abs (before_of (j := 1) (k := 3) (by kernel_rfl) hd hjn hn) h2), fun h1 h4 => absurd ((on_ne d 1 4 (by decide)).symm.trans h4) (fun h2 => bit_abs (before_of (j := 1) (k := 4) (by kernel_rfl) hd hjn hn) h2), fun h0 => Lt.up (ft0 (after_of (j := 1) (k := 0) (by kernel_rfl) hd hjn hn)) hsz, fun h1 => RowS.lt hnewrow, fun h2 => Lt.up (ft2 ((on_ne d 1 2 (by decide)).symm.trans h2)) hsz, fun h8 => BoxAt.grown (fbx ((on_ne d 1 8 (by decide)).symm.trans h8)) g0 (by decide) hG, fun h9 => absurd ((on_ne d 1 9 (by decide)).symm.trans h9) (fun h2 => bit_abs (before_of (j := 1) (k := 9) (by kernel_rfl) hd hjn hn) h2)⟩
        · intro d hd hjn hn xs wl hx hSl ⟨x0, x1, x2, x3, x4, x5, x6, x7, x8, x9, hxs, fr0, fr1, fr2, fr3, fr4, fr5, fr6, fr7, fs0_2, fs1_2, fs1_3, fs1_4, ft0, ft1, ft2, fbx, fbd⟩ a' ha o ho K hK
          subst hxs
          obtain rfl := Option.some.inj (ho.symm.trans (rfl : _ = some _))
          simp only [putVs, Act.put, List.setIfInBounds_toArray, List.set_cons_zero, List.set_cons_succ] at ha
          subst ha
          refine Kd.R_lit_step Kd.string w3.heap.size 9 ?hg (N := 31) ?hd (xs := ([] : List ByteArray)) (inner := []) (ok := tt) (okp := tt) ?hr ?hp (fun _ hk => hk) trivial hSl hSl.size (by simp) ?_; (case hd => rfl); (case hg => rfl); (case hr => first | (go_simp; done) | (go_simp; rfl)); (case hp => exact (Reps.none _ _))
          intro v6 w6 ho hS6 hG hnew
          have hnewrow := rowS_s ho
          have hsz := hG.size
          exact hK.out _ _ hS6 ⟨_, _, _, _, _, _, _, _, _, _, rfl, fun h0 n1 => RowS.grown0 (fr0 ((on_ne d 2 0 (by decide)).symm.trans h0) ((on_net d 2 1 (by decide)).symm.trans n1)) hG, fun h1 => RowS.grown0 (fr1 ((on_ne d 2 1 (by decide)).symm.trans h1)) hG, fun h2 n3 => hnewrow, fun h3 n4 => absurd ((on_ne d 2 3 (by decide)).symm.trans h3) (fun h2 => bit_abs (before_of (j := 2) (k := 3) (by kernel_rfl) hd hjn hn) h2), fun h4 => absurd ((on_ne d 2 4 (by decide)).symm.trans h4) (fun h2 => bit_abs (before_of (j := 2) (k := 4) (by kernel_rfl) hd hjn hn) h2), fun h5 n6 => RowS.grown0 (fr5 ((on_ne d 2 5 (by decide)).symm.trans h5) ((on_net d 2 6 (by decide)).symm.trans n6)) hG, fun h6 n7 => absurd ((on_ne d 2 6 (by decide)).symm.trans h6) (fun h2 => bit_abs (before_of (j := 2) (k := 6) (by kernel_rfl) hd hjn hn) h2), fun h7 => absurd ((on_ne d 2 7 (by decide)).symm.trans h7) (fun h2 => bit_abs (before_of (j := 2) (k := 7) (by kernel_rfl) hd hjn hn) h2), fun h0 h2 => Sep.symm (sep_fresh hnew (ft0 ((on_ne d 2 0 (by decide)).symm.trans h0))), fun h1 h2 => Sep.symm (sep_fresh hnew (ft1 ((on_ne d 2 1 (by decide)).symm.trans h1))), fun h1 h3 => absurd ((on_ne d 2 3 (by decide)).symm.trans h3) (fun h2 => bit_abs (before_of (j := 2) (k := 3) (by kernel_rfl) hd hjn hn) h2), fun h1 h4 => absurd ((on_ne d 2 4 (by decide)).symm.trans h4) (fun h2 => bit_abs (before_of (j := 2) (k := 4) (by kernel_rfl) hd hjn hn) h2), fun h0 => Lt.up (ft0 ((on_ne d 2 0 (by decide)).symm.trans h0)) hsz, fun h1 => Lt.up (ft1 ((on_ne d 2 1 (by decide)).symm.trans h1)) hsz, fun h2 => RowS.lt hnewrow, fun h8 => BoxAt.grown0 (fbx ((on_ne d 2 8 (by decide)).symm.trans h8)) hG, fun h9 => absurd ((on_ne d 2 9 (by decide)).symm.trans h9) (fun h2 => bit_abs (before_of (j := 2) (k := 9) (by kernel_rfl) hd hjn hn) h2)⟩
        · intro d hd hjn hn xs wl hx hSl ⟨x0, x1, x2, x3, x4, x5, x6, x7, x8, x9, hxs, fr0, fr1, fr2, fr3, fr4, fr5, fr6, fr7, fs0_2, fs1_2, fs1_3, fs1_4, ft0, ft1, ft2, fbx, fbd⟩ a' ha o ho K hK
          subst hxs
          obtain rfl := Option.some.inj (ho.symm.trans (rfl : _ = some _))
          simp only [putVs, Act.put, List.setIfInBounds_toArray, List.set_cons_zero, List.set_cons_succ] at ha
          subst ha
          have g1 := fr1 (after_of (j := 3) (k := 1) (by kernel_rfl) hd hjn hn)
          have g2 := fr2 (after_of (j := 3) (k := 2) (by kernel_rfl) hd hjn hn) hjn
          refine Kd.R_append_rows_step Kd.string (w0 := w3) w3.heap.size (by rfl) (.tmp 31) (.tmp 33) 22 9 (.string ⟨#[]⟩) 16 rfl Try.underlying22 INF9.out rfl (by decide) (by decide) x2 ([] : List ByteArray) V1 a2 n2 c2 tt (fun _ => False) rfl rfl (RowS.tt g2) ((HCA.out wl (HB3.out.trans (hSl.mono HB3.out.size))).2.1) (fun _ _ h => h) (fun _ h => h.elim) (fun _ _ => trivial) hSl hSl.size ?hl ?_
          case hl => have := HL.out; have := HN.out; simp; omega
          intro v6 w6 ho hS6 hG hat
          have hnewrow : RowS Kd.string 9 w3.heap.size w6 v6 V1 := rowS_s ho
          have hsz := hG.size
          exact hK.out _ _ hS6 ⟨_, _, _, _, _, _, _, _, _, _, rfl, fun h0 n1 => (bit_abs ((on_net d 3 1 (by decide)).symm.trans n1) (after_of (j := 3) (k := 1) (by kernel_rfl) hd hjn hn)).elim, fun h1 => RowS.grown (fr1 (after_of (j := 3) (k := 1) (by kernel_rfl) hd hjn hn)) hG (fs1_2 (after_of (j := 3) (k := 1) (by kernel_rfl) hd hjn hn) (after_of (j := 3) (k := 2) (by kernel_rfl) hd hjn hn)), fun h2 n3 => absurd n3 (by rw [on_att]; decide), fun h3 n4 => hnewrow, fun h4 => absurd ((on_ne d 3 4 (by decide)).symm.trans h4) (fun h2 => bit_abs (before_of (j := 3) (k := 4) (by kernel_rfl) hd hjn hn) h2), fun h5 n6 => RowS.grown (fr5 ((on_ne d 3 5 (by decide)).symm.trans h5) ((on_net d 3 6 (by decide)).symm.trans n6)) hG (sep_types (fr5 ((on_ne d 3 5 (by decide)).symm.trans h5) ((on_net d 3 6 (by decide)).symm.trans n6)) g2 (by decide)), fun h6 n7 => absurd ((on_ne d 3 6 (by decide)).symm.trans h6) (fun h2 => bit_abs (before_of (j := 3) (k := 6) (by kernel_rfl) hd hjn hn) h2), fun h7 => absurd ((on_ne d 3 7 (by decide)).symm.trans h7) (fun h2 => bit_abs (before_of (j := 3) (k := 7) (by kernel_rfl) hd hjn hn) h2), fun h0 h2 => (fs0_2 (after_of (j := 3) (k := 0) (by kernel_rfl) hd hjn hn) (after_of (j := 3) (k := 2) (by kernel_rfl) hd hjn hn)), fun h1 h2 => (fs1_2 (after_of (j := 3) (k := 1) (by kernel_rfl) hd hjn hn) (after_of (j := 3) (k := 2) (by kernel_rfl) hd hjn hn)), fun h1 h3 => Sep.symm (sep_next hat (Sep.symm (fs1_2 (after_of (j := 3) (k := 1) (by kernel_rfl) hd hjn hn) (after_of (j := 3) (k := 2) (by kernel_rfl) hd hjn hn))) (ft1 (after_of (j := 3) (k := 1) (by kernel_rfl) hd hjn hn))), fun h1 h4 => absurd ((on_ne d 3 4 (by decide)).symm.trans h4) (fun h2 => bit_abs (before_of (j := 3) (k := 4) (by kernel_rfl) hd hjn hn) h2), fun h0 => Lt.up (ft0 (after_of (j := 3) (k := 0) (by kernel_rfl) hd hjn hn)) hsz, fun h1 => Lt.up (ft1 (after_of (j := 3) (k := 1) (by kernel_rfl) hd hjn hn)) hsz, fun h2 => Lt.up (ft2 (after_of (j := 3) (k := 2) (by kernel_rfl) hd hjn hn)) hsz, fun h8 => BoxAt.grown (fbx ((on_ne d 3 8 (by decide)).symm.trans h8)) g2 (by decide) hG, fun h9 => absurd ((on_ne d 3 9 (by decide)).symm.trans h9) (fun h2 => bit_abs (before_of (j := 3) (k := 9) (by kernel_rfl) hd hjn hn) h2)⟩
        · intro d hd hjn hn xs wl hx hSl ⟨x0, x1, x2, x3, x4, x5, x6, x7, x8, x9, hxs, fr0, fr1, fr2, fr3, fr4, fr5, fr6, fr7, fs0_2, fs1_2, fs1_3, fs1_4, ft0, ft1, ft2, fbx, fbd⟩ a' ha o ho K hK
          subst hxs
          obtain rfl := Option.some.inj (ho.symm.trans (rfl : _ = some _))
          simp only [putVs, Act.put, List.setIfInBounds_toArray, List.set_cons_zero, List.set_cons_succ] at ha
          subst ha
          have g3 := fr3 (after_of (j := 4) (k := 3) (by kernel_rfl) hd hjn hn) hjn
          refine Kd.R_append_rows_step Kd.string (w0 := w3) w3.heap.size (by rfl) (.tmp 34) (.tmp 36) 22 9 (.string ⟨#[]⟩) 16 rfl Try.underlying22 INF9.out rfl (by decide) (by decide) x3 V1 V2 a5 n5 c5 tt (fun _ => False) rfl rfl (RowS.tt g3) ((HCB.out wl (HB3.out.trans (hSl.mono HB3.out.size))).2.1) (fun _ _ h => h) (fun _ h => h.elim) (fun _ _ => trivial) hSl hSl.size ?hl ?_
          case hl => have := HL.out; have := HN.out; simp; omega
          intro v6 w6 ho hS6 hG hat
          have hnewrow : RowS Kd.string 9 w3.heap.size w6 v6 (V1 ++ V2) := rowS_s ho
          have hsz := hG.size
          exact hK.out _ _ hS6 ⟨_, _, _, _, _, _, _, _, _, _, rfl, fun h0 n1 => (bit_abs ((on_net d 4 1 (by decide)).symm.trans n1) (after_of (j := 4) (k := 1) (by kernel_rfl) hd hjn hn)).elim, fun h1 => RowS.grown (fr1 (after_of (j := 4) (k := 1) (by kernel_rfl) hd hjn hn)) hG (fs1_3 (after_of (j := 4) (k := 1) (by kernel_rfl) hd hjn hn) (after_of (j := 4) (k := 3) (by kernel_rfl) hd hjn hn)), fun h2 n3 => (bit_abs ((on_net d 4 3 (by decide)).symm.trans n3) (after_of (j := 4) (k := 3) (by kernel_rfl) hd hjn hn)).elim, fun h3 n4 => absurd n4 (by rw [on_att]; decide), fun h4 => hnewrow, fun h5 n6 => RowS.grown (fr5 ((on_ne d 4 5 (by decide)).symm.trans h5) ((on_net d 4 6 (by decide)).symm.trans n6)) hG (sep_types (fr5 ((on_ne d 4 5 (by decide)).symm.trans h5) ((on_net d 4 6 (by decide)).symm.trans n6)) g3 (by decide)), fun h6 n7 => absurd ((on_ne d 4 6 (by decide)).symm.trans h6) (fun h2 => bit_abs (before_of (j := 4) (k := 6) (by kernel_rfl) hd hjn hn) h2), fun h7 => absurd ((on_ne d 4 7 (by decide)).symm.trans h7) (fun h2 => bit_abs (before_of (j := 4) (k := 7) (by kernel_rfl) hd hjn hn) h2), fun h0 h2 => (fs0_2 (after_of (j := 4) (k := 0) (by kernel_rfl) hd hjn hn) (after_of (j := 4) (k := 2) (by kernel_rfl) hd hjn hn)), fun h1 h2 => (fs1_2 (after_of (j := 4) (k := 1) (by kernel_rfl) hd hjn hn) (after_of (j := 4) (k := 2) (by kernel_rfl) hd hjn hn)), fun h1 h3 => (fs1_3 (after_of (j := 4) (k := 1) (by kernel_rfl) hd hjn hn) (after_of (j := 4) (k := 3) (by kernel_rfl) hd hjn hn)), fun h1 h4 => Sep.symm (sep_next hat (Sep.symm (fs1_3 (after_of (j := 4) (k := 1) (by kernel_rfl) hd hjn hn) (after_of (j := 4) (k := 3) (by kernel_rfl) hd hjn hn))) (ft1 (after_of (j := 4) (k := 1) (by kernel_rfl) hd hjn hn))), fun h0 => Lt.up (ft0 (after_of (j := 4) (k := 0) (by kernel_rfl) hd hjn hn)) hsz, fun h1 => Lt.up (ft1 (after_of (j := 4) (k := 1) (by kernel_rfl) hd hjn hn)) hsz, fun h2 => Lt.up (ft2 (after_of (j := 4) (k := 2) (by kernel_rfl) hd hjn hn)) hsz, fun h8 => BoxAt.grown (fbx ((on_ne d 4 8 (by decide)).symm.trans h8)) g3 (by decide) hG, fun h9 => absurd ((on_ne d 4 9 (by decide)).symm.trans h9) (fun h2 => bit_abs (before_of (j := 4) (k := 9) (by kernel_rfl) hd hjn hn) h2)⟩
        · intro d hd hjn hn xs wl hx hSl ⟨x0, x1, x2, x3, x4, x5, x6, x7, x8, x9, hxs, fr0, fr1, fr2, fr3, fr4, fr5, fr6, fr7, fs0_2, fs1_2, fs1_3, fs1_4, ft0, ft1, ft2, fbx, fbd⟩ a' ha o ho K hK
          subst hxs
          obtain rfl := Option.some.inj (ho.symm.trans (rfl : _ = some _))
          simp only [putVs, Act.put, List.setIfInBounds_toArray, List.set_cons_zero, List.set_cons_succ] at ha
          subst ha
          refine Kd.R_lit_step (Kd.int .i64) w3.heap.size 3 ?hg (N := 38) ?hd (xs := ([] : List Int)) (inner := []) (ok := tt) (okp := tt) ?hr ?hp (fun _ hk => hk) trivial hSl hSl.size (by simp) ?_; (case hd => rfl); (case hg => rfl); (case hr => first | (go_simp; done) | (go_simp; rfl)); (case hp => exact (Reps.none _ _))
          intro v6 w6 ho hS6 hG hnew
          have hnewrow := rowS_i ho
          have hsz := hG.size
          exact hK.out _ _ hS6 ⟨_, _, _, _, _, _, _, _, _, _, rfl, fun h0 n1 => RowS.grown0 (fr0 ((on_ne d 5 0 (by decide)).symm.trans h0) ((on_net d 5 1 (by decide)).symm.trans n1)) hG, fun h1 => RowS.grown0 (fr1 ((on_ne d 5 1 (by decide)).symm.trans h1)) hG, fun h2 n3 => RowS.grown0 (fr2 ((on_ne d 5 2 (by decide)).symm.trans h2) ((on_net d 5 3 (by decide)).symm.trans n3)) hG, fun h3 n4 => RowS.grown0 (fr3 ((on_ne d 5 3 (by decide)).symm.trans h3) ((on_net d 5 4 (by decide)).symm.trans n4)) hG, fun h4 => RowS.grown0 (fr4 ((on_ne d 5 4 (by decide)).symm.trans h4)) hG, fun h5 n6 => hnewrow, fun h6 n7 => absurd ((on_ne d 5 6 (by decide)).symm.trans h6) (fun h2 => bit_abs (before_of (j := 5) (k := 6) (by kernel_rfl) hd hjn hn) h2), fun h7 => absurd ((on_ne d 5 7 (by decide)).symm.trans h7) (fun h2 => bit_abs (before_of (j := 5) (k := 7) (by kernel_rfl) hd hjn hn) h2), fun h0 h2 => (fs0_2 ((on_ne d 5 0 (by decide)).symm.trans h0) ((on_ne d 5 2 (by decide)).symm.trans h2)), fun h1 h2 => (fs1_2 ((on_ne d 5 1 (by decide)).symm.trans h1) ((on_ne d 5 2 (by decide)).symm.trans h2)), fun h1 h3 => (fs1_3 ((on_ne d 5 1 (by decide)).symm.trans h1) ((on_ne d 5 3 (by decide)).symm.trans h3)), fun h1 h4 => (fs1_4 ((on_ne d 5 1 (by decide)).symm.trans h1) ((on_ne d 5 4 (by decide)).symm.trans h4)), fun h0 => Lt.up (ft0 ((on_ne d 5 0 (by decide)).symm.trans h0)) hsz, fun h1 => Lt.up (ft1 ((on_ne d 5 1 (by decide)).symm.trans h1)) hsz, fun h2 => Lt.up (ft2 ((on_ne d 5 2 (by decide)).symm.trans h2)) hsz, fun h8 => BoxAt.grown0 (fbx ((on_ne d 5 8 (by decide)).symm.trans h8)) hG, fun h9 => absurd ((on_ne d 5 9 (by decide)).symm.trans h9) (fun h2 => bit_abs (before_of (j := 5) (k := 9) (by kernel_rfl) hd hjn hn) h2)⟩
        · intro d hd hjn hn xs wl hx hSl ⟨x0, x1, x2, x3, x4, x5, x6, x7, x8, x9, hxs, fr0, fr1, fr2, fr3, fr4, fr5, fr6, fr7, fs0_2, fs1_2, fs1_3, fs1_4, ft0, ft1, ft2, fbx, fbd⟩ a' ha o ho K hK
          subst hxs
          obtain rfl := Option.some.inj (ho.symm.trans (rfl : _ = some _))
          simp only [putVs, Act.put, List.setIfInBounds_toArray, List.set_cons_zero, List.set_cons_succ] at ha
          subst ha
          have g4 := fr4 (after_of (j := 6) (k := 4) (by kernel_rfl) hd hjn hn)
          have g5 := fr5 (after_of (j := 6) (k := 5) (by kernel_rfl) hd hjn hn) hjn
          refine Kd.R_append_rows_step (Kd.int .i64) (w0 := w3) w3.heap.size (by rfl) (.tmp 38) (.tmp 40) 23 3 (.int .i64 0) 8 rfl Try.underlying23 INF3.out rfl (by decide) (by decide) x5 ([] : List Int) D1 a3 n3 c3 tt (fun _ => False) rfl rfl (RowS.tt g5) ((HCA.out wl (HB3.out.trans (hSl.mono HB3.out.size))).2.2) (fun _ _ h => h) (fun _ h => h.elim) (fun _ _ => trivial) hSl hSl.size ?hl ?_
          case hl => have := HL.out; have := HN.out; simp; omega
          intro v6 w6 ho hS6 hG hat
          have hnewrow : RowS (Kd.int .i64) 3 w3.heap.size w6 v6 D1 := rowS_i ho
          have hsz := hG.size
          exact hK.out _ _ hS6 ⟨_, _, _, _, _, _, _, _, _, _, rfl, fun h0 n1 => (bit_abs ((on_net d 6 1 (by decide)).symm.trans n1) (after_of (j := 6) (k := 1) (by kernel_rfl) hd hjn hn)).elim, fun h1 => RowS.grown (fr1 (after_of (j := 6) (k := 1) (by kernel_rfl) hd hjn hn)) hG (sep_types (fr1 (after_of (j := 6) (k := 1) (by kernel_rfl) hd hjn hn)) g5 (by decide)), fun h2 n3 => (bit_abs ((on_net d 6 3 (by decide)).symm.trans n3) (after_of (j := 6) (k := 3) (by kernel_rfl) hd hjn hn)).elim, fun h3 n4 => (bit_abs ((on_net d 6 4 (by decide)).symm.trans n4) (after_of (j := 6) (k := 4) (by kernel_rfl) hd hjn hn)).elim, fun h4 => RowS.grown (fr4 (after_of (j := 6) (k := 4) (by kernel_rfl) hd hjn hn)) hG (sep_types (fr4 (after_of (j := 6) (k := 4) (by kernel_rfl) hd hjn hn)) g5 (by decide)), fun h5 n6 => absurd n6 (by rw [on_att]; decide), fun h6 n7 => hnewrow, fun h7 => absurd ((on_ne d 6 7 (by decide)).symm.trans h7) (fun h2 => bit_abs (before_of (j := 6) (k := 7) (by kernel_rfl) hd hjn hn) h2), fun h0 h2 => (fs0_2 (after_of (j := 6) (k := 0) (by kernel_rfl) hd hjn hn) (after_of (j := 6) (k := 2) (by kernel_rfl) hd hjn hn)), fun h1 h2 => (fs1_2 (after_of (j := 6) (k := 1) (by kernel_rfl) hd hjn hn) (after_of (j := 6) (k := 2) (by kernel_rfl) hd hjn hn)), fun h1 h3 => (fs1_3 (after_of (j := 6) (k := 1) (by kernel_rfl) hd hjn hn) (after_of (j := 6) (k := 3) (by kernel_rfl) hd hjn hn)), fun h1 h4 => (fs1_4 (after_of (j := 6) (k := 1) (by kernel_rfl) hd hjn hn) (after_of (j := 6) (k := 4) (by kernel_rfl) hd hjn hn)), fun h0 => Lt.up (ft0 (after_of (j := 6) (k := 0) (by kernel_rfl) hd hjn hn)) hsz, fun h1 => Lt.up (ft1 (after_of (j := 6) (k := 1) (by kernel_rfl) hd hjn hn)) hsz, fun h2 => Lt.up (ft2 (after_of (j := 6) (k := 2) (by kernel_rfl) hd hjn hn)) hsz, fun h8 => BoxAt.grown (fbx ((on_ne d 6 8 (by decide)).symm.trans h8)) g5 (by decide) hG, fun h9 => absurd ((on_ne d 6 9 (by decide)).symm.trans h9) (fun h2 => bit_abs (before_of (j := 6) (k := 9) (by kernel_rfl) hd hjn hn) h2)⟩
        · intro d hd hjn hn xs wl hx hSl ⟨x0, x1, x2, x3, x4, x5, x6, x7, x8, x9, hxs, fr0, fr1, fr2, fr3, fr4, fr5, fr6, fr7, fs0_2, fs1_2, fs1_3, fs1_4, ft0, ft1, ft2, fbx, fbd⟩ a' ha o ho K hK
          subst hxs
          obtain rfl := Option.some.inj (ho.symm.trans (rfl : _ = some _))
          simp only [putVs, Act.put, List.setIfInBounds_toArray, List.set_cons_zero, List.set_cons_succ] at ha
          subst ha
          have g6 := fr6 (after_of (j := 7) (k := 6) (by kernel_rfl) hd hjn hn) hjn
          refine Kd.R_append_rows_step (Kd.int .i64) (w0 := w3) w3.heap.size (by rfl) (.tmp 41) (.tmp 43) 23 3 (.int .i64 0) 8 rfl Try.underlying23 INF3.out rfl (by decide) (by decide) x6 D1 D2 a6 n6 c6 tt (fun _ => False) rfl rfl (RowS.tt g6) ((HCB.out wl (HB3.out.trans (hSl.mono HB3.out.size))).2.2) (fun _ _ h => h) (fun _ h => h.elim) (fun _ _ => trivial) hSl hSl.size ?hl ?_
          case hl => have := HL.out; have := HN.out; simp; omega
          intro v6 w6 ho hS6 hG hat
          have hnewrow : RowS (Kd.int .i64) 3 w3.heap.size w6 v6 (D1 ++ D2) := rowS_i ho
          have hsz := hG.size
          exact hK.out _ _ hS6 ⟨_, _, _, _, _, _, _, _, _, _, rfl, fun h0 n1 => (bit_abs ((on_net d 7 1 (by decide)).symm.trans n1) (after_of (j := 7) (k := 1) (by kernel_rfl) hd hjn hn)).elim, fun h1 => RowS.grown (fr1 (after_of (j := 7) (k := 1) (by kernel_rfl) hd hjn hn)) hG (sep_types (fr1 (after_of (j := 7) (k := 1) (by kernel_rfl) hd hjn hn)) g6 (by decide)), fun h2 n3 => (bit_abs ((on_net d 7 3 (by decide)).symm.trans n3) (after_of (j := 7) (k := 3) (by kernel_rfl) hd hjn hn)).elim, fun h3 n4 => (bit_abs ((on_net d 7 4 (by decide)).symm.trans n4) (after_of (j := 7) (k := 4) (by kernel_rfl) hd hjn hn)).elim, fun h4 => RowS.grown (fr4 (after_of (j := 7) (k := 4) (by kernel_rfl) hd hjn hn)) hG (sep_types (fr4 (after_of (j := 7) (k := 4) (by kernel_rfl) hd hjn hn)) g6 (by decide)), fun h5 n6 => (bit_abs ((on_net d 7 6 (by decide)).symm.trans n6) (after_of (j := 7) (k := 6) (by kernel_rfl) hd hjn hn)).elim, fun h6 n7 => absurd n7 (by rw [on_att]; decide), fun h7 => hnewrow, fun h0 h2 => (fs0_2 (after_of (j := 7) (k := 0) (by kernel_rfl) hd hjn hn) (after_of (j := 7) (k := 2) (by kernel_rfl) hd hjn hn)), fun h1 h2 => (fs1_2 (after_of (j := 7) (k := 1) (by kernel_rfl) hd hjn hn) (after_of (j := 7) (k := 2) (by kernel_rfl) hd hjn hn)), fun h1 h3 => (fs1_3 (after_of (j := 7) (k := 1) (by kernel_rfl) hd hjn hn) (after_of (j := 7) (k := 3) (by kernel_rfl) hd hjn hn)), fun h1 h4 => (fs1_4 (after_of (j := 7) (k := 1) (by kernel_rfl) hd hjn hn) (after_of (j := 7) (k := 4) (by kernel_rfl) hd hjn hn)), fun h0 => Lt.up (ft0 (after_of (j := 7) (k := 0) (by kernel_rfl) hd hjn hn)) hsz, fun h1 => Lt.up (ft1 (after_of (j := 7) (k := 1) (by kernel_rfl) hd hjn hn)) hsz, fun h2 => Lt.up (ft2 (after_of (j := 7) (k := 2) (by kernel_rfl) hd hjn hn)) hsz, fun h8 => BoxAt.grown (fbx ((on_ne d 7 8 (by decide)).symm.trans h8)) g6 (by decide) hG, fun h9 => absurd ((on_ne d 7 9 (by decide)).symm.trans h9) (fun h2 => bit_abs (before_of (j := 7) (k := 9) (by kernel_rfl) hd hjn hn) h2)⟩
        · intro d hd hjn hn xs wl hx hSl ⟨x0, x1, x2, x3, x4, x5, x6, x7, x8, x9, hxs, fr0, fr1, fr2, fr3, fr4, fr5, fr6, fr7, fs0_2, fs1_2, fs1_3, fs1_4, ft0, ft1, ft2, fbx, fbd⟩ a' ha o ho K hK
          subst hxs
          obtain rfl := Option.some.inj (ho.symm.trans (rfl : _ = some _))
          simp only [putVs, Act.put, List.setIfInBounds_toArray, List.set_cons_zero, List.set_cons_succ] at ha
          subst ha
          have hb1 : Below wl.heap.size wl (wl.alloc (.cells #[.bool false, .slice none 0 0, .slice none 0 0, .slice none 0 0] 25)) := below_alloc (Below.refl _ _) _
          have hG : wl.grownBy (wl.alloc (.cells #[.bool false, .slice none 0 0, .slice none 0 0, .slice none 0 0] 25)) none := World.grownBy_alloc _ _ _
          have hsz := hG.size
          have hS6 := hSl.trans (hb1.mono hSl.size)
          refine value_ rfl rfl (v := .pointer (some ⟨wl.heap.size, 0, none⟩)) (w1 := wl.alloc (.cells #[.bool false, .slice none 0 0, .slice none 0 0, .slice none 0 0] 25)) (by first | (go_simp; done) | (go_simp; rfl)) ?_
          exact hK.out _ _ hS6 ⟨_, _, _, _, _, _, _, _, _, _, rfl, fun h0 n1 => RowS.grown0 (fr0 ((on_ne d 8 0 (by decide)).symm.trans h0) ((on_net d 8 1 (by decide)).symm.trans n1)) hG, fun h1 => RowS.grown0 (fr1 ((on_ne d 8 1 (by decide)).symm.trans h1)) hG, fun h2 n3 => RowS.grown0 (fr2 ((on_ne d 8 2 (by decide)).symm.trans h2) ((on_net d 8 3 (by decide)).symm.trans n3)) hG, fun h3 n4 => RowS.grown0 (fr3 ((on_ne d 8 3 (by decide)).symm.trans h3) ((on_net d 8 4 (by decide)).symm.trans n4)) hG, fun h4 => RowS.grown0 (fr4 ((on_ne d 8 4 (by decide)).symm.trans h4)) hG, fun h5 n6 => RowS.grown0 (fr5 ((on_ne d 8 5 (by decide)).symm.trans h5) ((on_net d 8 6 (by decide)).symm.trans n6)) hG, fun h6 n7 => RowS.grown0 (fr6 ((on_ne d 8 6 (by decide)).symm.trans h6) ((on_net d 8 7 (by decide)).symm.trans n7)) hG, fun h7 => RowS.grown0 (fr7 ((on_ne d 8 7 (by decide)).symm.trans h7)) hG, fun h0 h2 => (fs0_2 ((on_ne d 8 0 (by decide)).symm.trans h0) ((on_ne d 8 2 (by decide)).symm.trans h2)), fun h1 h2 => (fs1_2 ((on_ne d 8 1 (by decide)).symm.trans h1) ((on_ne d 8 2 (by decide)).symm.trans h2)), fun h1 h3 => (fs1_3 ((on_ne d 8 1 (by decide)).symm.trans h1) ((on_ne d 8 3 (by decide)).symm.trans h3)), fun h1 h4 => (fs1_4 ((on_ne d 8 1 (by decide)).symm.trans h1) ((on_ne d 8 4 (by decide)).symm.trans h4)), fun h0 => Lt.up (ft0 ((on_ne d 8 0 (by decide)).symm.trans h0)) hsz, fun h1 => Lt.up (ft1 ((on_ne d 8 1 (by decide)).symm.trans h1)) hsz, fun h2 => Lt.up (ft2 ((on_ne d 8 2 (by decide)).symm.trans h2)) hsz, fun h8 => ⟨_, rfl, blk_new wl _, hSl.size⟩, fun h9 => (fbd ((on_ne d 8 9 (by decide)).symm.trans h9))⟩
        · intro d hd hjn hn xs wl hx hSl ⟨x0, x1, x2, x3, x4, x5, x6, x7, x8, x9, hxs, fr0, fr1, fr2, fr3, fr4, fr5, fr6, fr7, fs0_2, fs1_2, fs1_3, fs1_4, ft0, ft1, ft2, fbx, fbd⟩ a' ha o ho K hK
          subst hxs
          obtain rfl := Option.some.inj (ho.symm.trans (rfl : _ = some _))
          simp only [putVs, Act.put, List.setIfInBounds_toArray, List.set_cons_zero, List.set_cons_succ] at ha
          subst ha
          have g1 := fr1 (after_of (j := 9) (k := 1) (by kernel_rfl) hd hjn hn)
          have g4 := fr4 (after_of (j := 9) (k := 4) (by kernel_rfl) hd hjn hn)
          have g7 := fr7 (after_of (j := 9) (k := 7) (by kernel_rfl) hd hjn hn)
          obtain ⟨A7, c7, rfl⟩ := Kd.R_slice g1
          obtain ⟨A8, c8, rfl⟩ := Kd.R_slice g4
          obtain ⟨A9, c9, rfl⟩ := Kd.R_slice g7
          have hS6 := hSl
          refine value_ rfl rfl (v := .agg #[.bool true, .slice A7 K1.length c7, .slice A8 (V1 ++ V2).length c8, .slice A9 (D1 ++ D2).length c9]) (w1 := wl) (by first | (go_simp; done) | (go_simp; rfl)) ?_
          exact hK.out _ _ hS6 ⟨_, _, _, _, _, _, _, _, _, _, rfl, fun h0 n1 => (bit_abs ((on_net d 9 1 (by decide)).symm.trans n1) (after_of (j := 9) (k := 1) (by kernel_rfl) hd hjn hn)).elim, fun h1 => (fr1 (after_of (j := 9) (k := 1) (by kernel_rfl) hd hjn hn)), fun h2 n3 => (bit_abs ((on_net d 9 3 (by decide)).symm.trans n3) (after_of (j := 9) (k := 3) (by kernel_rfl) hd hjn hn)).elim, fun h3 n4 => (bit_abs ((on_net d 9 4 (by decide)).symm.trans n4) (after_of (j := 9) (k := 4) (by kernel_rfl) hd hjn hn)).elim, fun h4 => (fr4 (after_of (j := 9) (k := 4) (by kernel_rfl) hd hjn hn)), fun h5 n6 => (bit_abs ((on_net d 9 6 (by decide)).symm.trans n6) (after_of (j := 9) (k := 6) (by kernel_rfl) hd hjn hn)).elim, fun h6 n7 => (bit_abs ((on_net d 9 7 (by decide)).symm.trans n7) (after_of (j := 9) (k := 7) (by kernel_rfl) hd hjn hn)).elim, fun h7 => (fr7 (after_of (j := 9) (k := 7) (by kernel_rfl) hd hjn hn)), fun h0 h2 => (fs0_2 (after_of (j := 9) (k := 0) (by kernel_rfl) hd hjn hn) (after_of (j := 9) (k := 2) (by kernel_rfl) hd hjn hn)), fun h1 h2 => (fs1_2 (after_of (j := 9) (k := 1) (by kernel_rfl) hd hjn hn) (after_of (j := 9) (k := 2) (by kernel_rfl) hd hjn hn)), fun h1 h3 => (fs1_3 (after_of (j := 9) (k := 1) (by kernel_rfl) hd hjn hn) (after_of (j := 9) (k := 3) (by kernel_rfl) hd hjn hn)), fun h1 h4 => (fs1_4 (after_of (j := 9) (k := 1) (by kernel_rfl) hd hjn hn) (after_of (j := 9) (k := 4) (by kernel_rfl) hd hjn hn)), fun h0 => (ft0 (after_of (j := 9) (k := 0) (by kernel_rfl) hd hjn hn)), fun h1 => (ft1 (after_of (j := 9) (k := 1) (by kernel_rfl) hd hjn hn)), fun h2 => (ft2 (after_of (j := 9) (k := 2) (by kernel_rfl) hd hjn hn)), fun h8 => (fbx ((on_ne d 9 8 (by decide)).symm.trans h8)), fun h9 => rfl⟩
      case hfin =>
        intro xs wl hx hSl ⟨x0, x1, x2, x3, x4, x5, x6, x7, x8, x9, hxs, fr0, fr1, fr2, fr3, fr4, fr5, fr6, fr7, fs0_2, fs1_2, fs1_3, fs1_4, ft0, ft1, ft2, fbx, fbd⟩ a' ha
        subst hxs
        simp only [putVs, Act.put, List.setIfInBounds_toArray, List.set_cons_zero, List.set_cons_succ] at ha
        subst ha
        have gr1 := fr1 (by decide)
        have gr4 := fr4 (by decide)
        have gr7 := fr7 (by decide)
        have gs0_2 := fs0_2 (by decide) (by decide)
        have gs1_2 := fs1_2 (by decide) (by decide)
        have gs1_3 := fs1_3 (by decide) (by decide)
        have gs1_4 := fs1_4 (by decide) (by decide)
        have gt0 := ft0 (by decide)
        have gt1 := ft1 (by decide)
        have gt2 := ft2 (by decide)
        have gbx := fbx (by decide)
        have gbd := fbd (by decide)
        clear fr0 fr1 fr2 fr3 fr4 fr5 fr6 fr7 fs0_2 fs1_2 fs1_3 fs1_4 ft0 ft1 ft2 fbx fbd
        obtain ⟨g8, rfl, hq8, hg8⟩ := gbx
        have hHeld := hSl
        subst gbd
        obtain ⟨A7, c7, rfl⟩ := Kd.R_slice gr1
        obtain ⟨A8, c8, rfl⟩ := Kd.R_slice gr4
        obtain ⟨A9, c9, rfl⟩ := Kd.R_slice gr7
        have HX1 := Aside0.mk gr1
        have HX4 := Aside0.mk gr4
        have HX7 := Aside0.mk gr7
        have HSP := Aside0.mk gs1_4
        have HQ8 := Aside0.mk hq8
        have HG8 := Aside0.mk hg8
        have HSl := Aside0.mk hSl
        obtain ⟨i0, i1, i2, i3⟩ := cells_of hq8
        have j0 := frz_of hq8 0
        have j1 := frz_of hq8 1
        have j2 := frz_of hq8 2
        have j3 := frz_of hq8 3
        clear gr1 gr4 gr7 gs0_2 gs1_2 gs1_3 gs1_4 gt0 gt1 gt2 hq8 hg8
        refine one_ (i := 22) (N := none) #[true, true, true, true, true, true, true, true, true, true, true, true, true, true, true, true, true, true, true, true, true, true, true] rfl rfl (by kernel_rfl) (by decide) (fun K hK => ?_)
        refine skip_ rfl rfl (w1 := set4 wl g8 (.bool true) (.slice A7 K1.length c7) (.slice A8 (V1 ++ V2).length c8) (.slice A9 (D1 ++ D2).length c9)) (by first | (go_simp; done) | (go_simp; rfl)) ?_
        refine hK.out _ _ (set4_below HSl.out HG8.out _ _ _ _) (fun hHeld => ?_)
        clear hK K 
        refine done_ (by kernel_rfl) ?_
        obtain ⟨Ka, hKa⟩ : ∃ Ka, Ka = K1 := ⟨_, rfl⟩
        obtain ⟨Vo, hVo⟩ : ∃ Vo, Vo = V1 ++ V2 := ⟨_, rfl⟩
        obtain ⟨Do, hDo⟩ : ∃ Do, Do = D1 ++ D2 := ⟨_, rfl⟩
        rw [← hKa] at HX1 HSP
        rw [← hVo] at HX4 HSP
        rw [← hDo] at HX7
        rw [← hKa, ← hVo, ← hDo]
        clear i0 i1 i2 i3 j0 j1 j2 j3
        have hq8 := set4_blk HQ8.out (.bool true) (.slice A7 Ka.length c7) (.slice A8 Vo.length c8) (.slice A9 Do.length c9)
        have hx1 := RowS.set4 HX1.out HQ8.out (by decide) (.bool true) (.slice A7 Ka.length c7) (.slice A8 Vo.length c8) (.slice A9 Do.length c9)
        have hx4 := RowS.set4 HX4.out HQ8.out (by decide) (.bool true) (.slice A7 Ka.length c7) (.slice A8 Vo.length c8) (.slice A9 Do.length c9)
        have hx7 := RowS.set4 HX7.out HQ8.out (by decide) (.bool true) (.slice A7 Ka.length c7) (.slice A8 Vo.length c8) (.slice A9 Do.length c9)
        have hb7 := set4_below HSl.out HG8.out (.bool true) (.slice A7 Ka.length c7) (.slice A8 Vo.length c8) (.slice A9 Do.length c9)
        clear HX1 HX4 HX7 HQ8 hHeld HSl
        generalize set4 wl g8 (.bool true) (.slice A7 Ka.length c7) (.slice A8 Vo.length c8) (.slice A9 Do.length c9) = w7 at hq8 hx1 hx4 hx7 hb7 ⊢
        have z0 := (cells_of (blk_below HQ3c.out hb7)).1
        obtain ⟨nk, hnk⟩ : ∃ nk, nk = Ka.length := ⟨_, rfl⟩
        rw [← hnk] at hq8 hx1 HSP ⊢
        have HNK := Aside0.mk (show nk ≤ 300 by have := HL.out; rw [hnk, hKa]; omega)
        have HNKa := Aside0.mk hnk
        obtain ⟨i0, i1, i2, i3⟩ := cells_of hq8
        have HQ8 := Aside0.mk hq8
        have HX1 := Aside0.mk hx1
        have HX4 := Aside0.mk hx4
        have HX7 := Aside0.mk hx7
        have HB7 := Aside0.mk hb7
        have HKa := Aside0.mk hKa
        have HE := Aside0.mk (And.intro hVo hDo)
        have t1 := (cells_of (blk_below HQ5c.out hb7)).2.1
        clear hq8 hx1 hx4 hx7 hb7 hnk hKa hVo hDo
        have HKa' := Aside0.mk (show Ka = K1 ++ btw true key by rw [HKa.out]; simp [btw])
        clear HKa
        have HKa := HKa'
        clear HKa'
        go_upto_region 7 with (first
          | ((with_reducible refine gate_dst (N := 59) rfl ?_); at_builtin; refine Kd.R_append_rows Kd.string (w0 := w3) w3.heap.size rfl (.tmp 56) (.tmp 58) 22 9 (.string ⟨#[]⟩) 16 rfl Try.underlying22 INF9.out rfl (by decide) (by decide) (.slice A7 nk c7) Ka K2 a4 n4 c4 tt (fun _ => False) rfl rfl (RowS.tt HX1.out) ((HCB.out w7 (HB3.out.trans (HB7.out.mono HB3.out.size))).1) (fun _ _ h => h) (fun _ h => h.elim) (fun _ _ => trivial) HB7.out (HB7.out).size ?hl ?_; (case hl => have h1 := HNK.out; have h4 := HNKa.out; have h2 := HL.out; have h3 := HN.out; simp; omega); intro v9 w9 ho hb hG hat; obtain ⟨Kb, hKb⟩ : ∃ Kb, Kb = Ka ++ K2 := ⟨_, rfl⟩; rw [← hKb] at ho; have HKB := Aside0.mk hKb; obtain ⟨A10, c10, rfl⟩ := Kd.R_slice ho; have HN9 := Aside0.mk (show RowS Kd.string 9 w3.heap.size w9 (.slice A10 Kb.length c10) Kb from rowS_s ho); have HB9 := Aside0.mk hb; have HG9 := Aside0.mk hG; have HAT := Aside0.mk hat; have hq8 := blk_grown HQ8.out HX1.out (by decide) hG; obtain ⟨k0, k1, k2, k3⟩ := cells_of hq8; have e1 := frz_of hq8 1; have HQ89 := Aside0.mk hq8; clear ho hb hG hat hq8 hKb))
        have hKb := HKB.out
        clear HKB
        have hq8 := blk_put (cs' := #[.bool true, .slice A10 Kb.length c10, .slice A8 Vo.length c8, .slice A9 Do.length c9]) HQ89.out 1 (.slice A10 Kb.length c10) rfl
        have hx1 := HN9.out.set1 (j := 1) HQ89.out (by decide) (.slice A10 Kb.length c10)
        have hx4 := (RowS.grown HX4.out HG9.out (Sep.symm HSP.out)).set1 (j := 1) HQ89.out (by decide) (.slice A10 Kb.length c10)
        have hx7 := (RowS.grown HX7.out HG9.out (sep_types HX7.out HX1.out (by decide))).set1 (j := 1) HQ89.out (by decide) (.slice A10 Kb.length c10)
        have hsp := sep_next HAT.out HSP.out (RowS.lt HX4.out)
        have hbb : Below w3.heap.size w3 (w9.setCell ⟨g8, 1, none⟩ (.slice A10 Kb.length c10)) := HB9.out.setCell HG8.out _
        generalize w9.setCell ⟨g8, 1, none⟩ (.slice A10 Kb.length c10) = wA at hq8 hx1 hx4 hx7 hbb ⊢
        have HKo := Aside0.mk (show Kb = outK true K1 key K2 by rw [hKb, HKa.out]; unfold outK; rw [List.append_assoc])
        have HNK2 := Aside0.mk (show Kb.length ≤ 1000 by rw [hKb, List.length_append, ← HNKa.out]; have := HNK.out; have := HL.out; omega)
        clear hKb hsp
        have HMO := Aside0.mk (show MergeP true K1 V1 D1 key true K2 V2 D2 ↔ CanP true Kb Vo Do ∧ needTo true Kb Vo Kb.length ≤ 509 by
          rw [HKo.out, HE.out.1, HE.out.2]
          exact ⟨fun h => h.2.2.2, fun h => ⟨HR.out.1.1 (by first | rfl | trivial), HR.out.2.1 (by first | rfl | trivial), rfl, h⟩⟩)
        have HM' := Aside0.mk (show m = true ↔ MergeP true K1 V1 D1 key true K2 V2 D2 from HM.out)
        have HLK := Aside0.mk (show Kb.length ≤ 100000 ∧ Vo.length ≤ 100000 ∧ Do.length ≤ 100000 by
          have h := HL.out
          have h2 := HNK2.out
          rw [HE.out.1, HE.out.2]
          simp
          omega)
        have hq6 := blk_below HQ6c.out hbb
        have hb7 := HB3.out.trans (hbb.mono HB3.out.size)
        have HX1' := Aside0.mk hx1
        have HX4' := Aside0.mk hx4
        have HX7' := Aside0.mk hx7
        have HQ9 := Aside0.mk hq8
        have HQ6d := Aside0.mk hq6
        have HBW := Aside0.mk hb7
        have hbk : Bk wA ⟨A10, c10, A8, c8, A9, c9⟩ true Kb Vo Do := bkS_of HX1'.out HX4'.out HX7'.out
        clear i0 i1 i2 i3 k0 k1 k2 k3 e1 t1
        try clear z0
        obtain ⟨i0, i1, i2, i3⟩ := cells_of hq8
        clear hx1 hx4 hx7 hq8 hq6 hb7 hbb
        obtain ⟨r3, hr3⟩ := is_bool (CanP true Kb Vo Do)
        have hc3 := rcan_c hbk (by have := HLK.out; omega) r3 hr3
        have HBK := Aside0.mk hbk
        have HC3 := Aside0.mk hc3
        have HR3 := Aside0.mk hr3
        dsimp only at HC3
        clear hbk hr3 hc3
        cases r3 with
        | false =>
          go_wp2_with (go_at_call 9; refine HC3.out.mono ?_; rintro e w8 ⟨rfl, h1⟩; have HB8 := Aside0.mk (HBW.out.trans (h1.mono HBW.out.size)); have hq6 := blk_below HQ6d.out h1; obtain ⟨y0, y1, y2, y3⟩ := cells_of hq6; have f0 := frz_of hq6 0; have f1 := frz_of hq6 1; have f2 := frz_of hq6 2; have f3 := frz_of hq6 3; have HQ6e := Aside0.mk hq6; clear h1 hq6)
          have hm : m = false := by
            cases m with
            | false => rfl
            | true => exact absurd (HR3.out.2 (HMO.out.1 (HM'.out.1 rfl)).1) (by decide)
          subst hm
          refine bodyPost_ret (results_ct rfl _ _ g6 25 #[.bool false, .slice none 0 0, .slice none 0 0, .slice none 0 0] (0, 0) _ rfl (set4_blk HQ6e.out _ _ _ _) Try.underlying25 rfl (by kernel_rfl)) rfl ?_
          exact ⟨p0, rfl, BkR.none _ _, set4_below HB8.out HG6.out _ _ _ _⟩
        | true =>
          have hsm := small_can (HR3.out.1 rfl) HLK.out.1 HLK.out.2.1
          have HSM := Aside0.mk hsm
          clear hsm
          obtain ⟨N, hN⟩ : ∃ N, N = needTo true Kb Vo Kb.length := ⟨_, rfl⟩
          have hnd := fun (w : World) (h : Below wA.heap.size wA w) => rneed_c (HBK.out.below h) HSM.out.1 HSM.out.2.1 Kb.length (Nat.le_refl _)
          rw [← hN] at hnd
          dsimp only at hnd
          have HND := Aside0.mk hnd
          have HNN := Aside0.mk hN
          clear hnd hN
          by_cases hlim : N ≤ 509
          · have e1 : decide ((509 : Int) < N) = false := decide_eq_false (by omega)
            go_wp2_with (first
              | (go_at_call 20; refine (HND.out w8 HS8.out).mono ?_; rintro e w10 ⟨rfl, h1⟩; have HB9' := Aside0.mk (HB8.out.trans (h1.mono HB8.out.size)); have HS9 := Aside0.mk (HS8.out.trans (h1.mono HS8.out.size)); have hq6 := blk_below HQ6e.out h1; have hq9 := blk_below HQ9e.out h1; obtain ⟨m0, m1, m2, m3⟩ := cells_of hq9; obtain ⟨y0, y1, y2, y3⟩ := cells_of hq6; have f0 := frz_of hq6 0; have f1 := frz_of hq6 1; have f2 := frz_of hq6 2; have f3 := frz_of hq6 3; have HQ6f := Aside0.mk hq6; clear h1 hq6 hq9)
              | (go_at_call 9; refine HC3.out.mono ?_; rintro e w8 ⟨rfl, h1⟩; have HB8 := Aside0.mk (HBW.out.trans (h1.mono HBW.out.size)); have HS8 := Aside0.mk h1; have hq6 := blk_below HQ6d.out h1; have hq9 := blk_below HQ9.out h1; obtain ⟨l0, l1, l2, l3⟩ := cells_of hq9; have HQ6e := Aside0.mk hq6; have HQ9e := Aside0.mk hq9; clear h1 hq6 hq9))
            have hm : m = true := HM'.out.2 (HMO.out.2 ⟨HR3.out.1 (by first | rfl | trivial), by rw [← HNN.out]; exact hlim⟩)
            subst hm
            refine bodyPost_ret (results_ct rfl _ _ g6 25 #[.bool true, .slice A10 Kb.length c10, .slice A8 Vo.length c8, .slice A9 Do.length c9] (0, 0) _ rfl (set4_blk HQ6f.out _ _ _ _) Try.underlying25 rfl (by kernel_rfl)) rfl ?_
            refine ⟨⟨A10, c10, A8, c8, A9, c9⟩, ?_, ?_, set4_below HB9'.out HG6.out _ _ _ _⟩
            · rw [← HKo.out, ← HE.out.1, ← HE.out.2]
              rfl
            · rw [← HKo.out, ← HE.out.1, ← HE.out.2]
              exact BkR.lower ⟨RowS.tt (RowS.set4 (HX1'.out.below HS9.out) HQ6f.out (by decide) _ _ _ _), RowS.tt (RowS.set4 (HX4'.out.below HS9.out) HQ6f.out (by decide) _ _ _ _), RowS.tt (RowS.set4 (HX7'.out.below HS9.out) HQ6f.out (by decide) _ _ _ _)⟩ HB3.out.size
          · have e1 : decide ((509 : Int) < N) = true := decide_eq_true (by omega)
            go_wp2_with (first
              | (go_at_call 20; refine (HND.out w8 HS8.out).mono ?_; rintro e w10 ⟨rfl, h1⟩; have HB9' := Aside0.mk (HB8.out.trans (h1.mono HB8.out.size)); have hq6 := blk_below HQ6e.out h1; obtain ⟨y0, y1, y2, y3⟩ := cells_of hq6; have f0 := frz_of hq6 0; have f1 := frz_of hq6 1; have f2 := frz_of hq6 2; have f3 := frz_of hq6 3; have HQ6f := Aside0.mk hq6; clear h1 hq6)
              | (go_at_call 9; refine HC3.out.mono ?_; rintro e w8 ⟨rfl, h1⟩; have HB8 := Aside0.mk (HBW.out.trans (h1.mono HBW.out.size)); have HS8 := Aside0.mk h1; have hq6 := blk_below HQ6d.out h1; have hq9 := blk_below HQ9.out h1; obtain ⟨l0, l1, l2, l3⟩ := cells_of hq9; have HQ6e := Aside0.mk hq6; clear h1 hq6 hq9))
            have hm : m = false := by
              cases m with
              | false => rfl
              | true => exact absurd (by have h := (HMO.out.1 (HM'.out.1 rfl)).2; rw [← HNN.out] at h; have := hlim; omega : false = true) (by decide)
            subst hm
            refine bodyPost_ret (results_ct rfl _ _ g6 25 #[.bool false, .slice none 0 0, .slice none 0 0, .slice none 0 0] (0, 0) _ rfl (set4_blk HQ6f.out _ _ _ _) Try.underlying25 rfl (by kernel_rfl)) rfl ?_
            exact ⟨p0, rfl, BkR.none _ _, set4_below HB9'.out HG6.out _ _ _ _⟩
end Go.Proofs.Ytbpnkgaomobpkaa.Mrg
