/- The law NodeMerges, walked by hand (written by mkmrgf.py). -/
import Derived.Test.YtbpnkgaomobpkaaMrgD
namespace Go.Proofs.Ytbpnkgaomobpkaa.Mrg
open Go.RowKit Go.Proofs.Ytbpnkgaomobpkaa.PNxu Go.Proofs.YtbpnkgaomobpkaaW.PrintWords Go.Proofs.YtbpnkgaomobpkaaW.PrintLast Go.Proofs.YtbpnkgaomobpkaaW.PrintMore Go.Proofs.Ytbpnkgaomobpkaa.Pure
set_option linter.unusedVariables false
set_option linter.unusedSimpArgs false
theorem lives_c (w : World) : Calls Try.prog 10 #[] w fun e w' => e = .returned (.bool true) ∧ Below w.heap.size w w' := by
  obtain ⟨k, hk⟩ := node_lives.rounds
  exact aukletlaw22_lives.calls k true w hk
theorem few_c {b : Bool} {K V : List ByteArray} {D : List Int} : ∃ r : Bool, (r = true → Small K ∧ Small V ∧ D.length ≤ 300 ∧ K.length ≤ 300 ∧ V.length ≤ 300) ∧ ∀ (w : World) (p : At), Bk w p b K V D →
    Calls Try.prog 8 #[.agg #[.bool b, .slice p.a1 K.length p.c1, .slice p.a2 V.length p.c2, .slice p.a3 D.length p.c3]] w fun e w' => e = .returned (.bool r) ∧ Below w.heap.size w w' := by
  obtain ⟨r, hr, he⟩ := few_ev b K V D
  obtain ⟨k, hk⟩ := hr.rounds
  exact ⟨r, he, fun w p h => aukletlaw22_few.calls k b p.a1 p.c1 K p.a2 p.c2 V p.a3 p.c3 D r w h.k h.kc h.v h.vc h.d h.dc hk⟩
theorem same_c {w : World} {p q : At} {b : Bool} {K V : List ByteArray} {D : List Int} (h : Bk w p b K V D) (h' : Bk w q b K V D) (hl : K.length ≤ 1000000 ∧ V.length ≤ 1000000 ∧ D.length ≤ 1000000) :
    Calls Try.prog 15 #[.agg #[.bool b, .slice p.a1 K.length p.c1, .slice p.a2 V.length p.c2, .slice p.a3 D.length p.c3], .agg #[.bool b, .slice q.a1 K.length q.c1, .slice q.a2 V.length q.c2, .slice q.a3 D.length q.c3]] w fun e w' => e = .returned (.bool true) ∧ Below w.heap.size w w' := by
  obtain ⟨k, hk⟩ := (same_b b K V D hl.1 hl.2.1 hl.2.2).rounds
  exact aukletref22_Same.calls k b p.a1 p.c1 K p.a2 p.c2 V p.a3 p.c3 D b q.a1 q.c1 K q.a2 q.c2 V q.a3 q.c3 D true w h.k h.kc h.v h.vc h.d h.dc h'.k h'.kc h'.v h'.vc h'.d h'.dc hk
/-- A block of the call's own; in a pair with a truth; in a struct's block. -/
def OwnR (base : Nat) (w : World) (x : Value) (b : Bool) (K V : List ByteArray) (D : List Int) : Prop := ∃ p : At, x = .agg #[.bool b, .slice p.a1 K.length p.c1, .slice p.a2 V.length p.c2, .slice p.a3 D.length p.c3] ∧ BkR base w p K V D
theorem OwnR.below {base : Nat} {w w' : World} {x : Value} {b : Bool} {K V : List ByteArray} {D : List Int} (h : OwnR base w x b K V D) (hb : Below w.heap.size w w') : OwnR base w' x b K V D := by
  obtain ⟨p, h1, h2⟩ := h
  exact ⟨p, h1, h2.below hb⟩
def TupR (base : Nat) (w : World) (x : Value) (m b : Bool) (K V : List ByteArray) (D : List Int) : Prop := ∃ p : At, x = .tuple #[.agg #[.bool b, .slice p.a1 K.length p.c1, .slice p.a2 V.length p.c2, .slice p.a3 D.length p.c3], .bool m] ∧ BkR base w p K V D
theorem TupR.below {base : Nat} {w w' : World} {x : Value} {m b : Bool} {K V : List ByteArray} {D : List Int} (h : TupR base w x m b K V D) (hb : Below w.heap.size w w') : TupR base w' x m b K V D := by
  obtain ⟨p, h1, h2⟩ := h
  exact ⟨p, h1, h2.below hb⟩
theorem TupR.set4 {base g : Nat} {w : World} {x : Value} {m b : Bool} {K V : List ByteArray} {D : List Int} {cs : Array Value} (h : TupR base w x m b K V D) (hg : w.heap[g]? = some (.cells cs 25 (0, 0))) (v0 v1 v2 v3 : Value) : TupR base (set4 w g v0 v1 v2 v3) x m b K V D := by
  obtain ⟨p, h1, h2⟩ := h
  exact ⟨p, h1, h2.set4 hg _ _ _ _⟩
theorem TupR.lower {base base' : Nat} {w : World} {x : Value} {m b : Bool} {K V : List ByteArray} {D : List Int} (h : TupR base w x m b K V D) (hb : base' ≤ base) : TupR base' w x m b K V D := by
  obtain ⟨p, h1, h2⟩ := h
  exact ⟨p, h1, h2.lower hb⟩
def StoredAt (base : Nat) (w : World) (x : Value) (b : Bool) (K V : List ByteArray) (D : List Int) : Prop := ∃ (g : Nat) (p : At), x = .pointer (some ⟨g, 0, none⟩) ∧ w.heap[g]? = some (.cells #[.bool b, .slice p.a1 K.length p.c1, .slice p.a2 V.length p.c2, .slice p.a3 D.length p.c3] 25 (0, 0)) ∧ base ≤ g ∧ BkR base w p K V D
theorem StoredAt.below {base : Nat} {w w' : World} {x : Value} {b : Bool} {K V : List ByteArray} {D : List Int} (h : StoredAt base w x b K V D) (hb : Below w.heap.size w w') : StoredAt base w' x b K V D := by
  obtain ⟨g, p, h1, h2, h3, h4⟩ := h
  exact ⟨g, p, h1, blk_below h2 hb, h3, h4.below hb⟩
/-- A block in memory, and in a pair with a truth. -/
def OwnAt (w : World) (x : Value) (b : Bool) (K V : List ByteArray) (D : List Int) : Prop := ∃ p : At, x = .agg #[.bool b, .slice p.a1 K.length p.c1, .slice p.a2 V.length p.c2, .slice p.a3 D.length p.c3] ∧ Bk w p b K V D
theorem OwnAt.below {w w' : World} {x : Value} {b : Bool} {K V : List ByteArray} {D : List Int} (h : OwnAt w x b K V D) (hb : Below w.heap.size w w') : OwnAt w' x b K V D := by
  obtain ⟨p, h1, h2⟩ := h
  exact ⟨p, h1, h2.below hb⟩
theorem own_c {w : World} {p : At} {b : Bool} {K V : List ByteArray} {D : List Int} (h : Bk w p b K V D) (hl : K.length ≤ 1000000 ∧ V.length ≤ 1000000 ∧ D.length ≤ 1000000) :
    Calls Try.prog 18 #[.agg #[.bool b, .slice p.a1 K.length p.c1, .slice p.a2 V.length p.c2, .slice p.a3 D.length p.c3]] w fun e w' => ∃ v, e = .returned v ∧ OwnAt w' v b K V D ∧ Below w.heap.size w w' := by
  have hf : aukletref22_Own.f b K V D = some (b, K, V, D) := by
    unfold aukletref22_Own.f
    simp only [Option.bind_some, List.nil_append, List.length_nil]
    rw [if_pos (by omega), if_pos (by omega), if_pos (by omega)]
  refine (aukletref22_Own.calls b p.a1 p.c1 K p.a2 p.c2 V p.a3 p.c3 D b K V D w h.k h.kc h.v h.vc h.d h.dc hf).mono ?_
  rintro e w' ⟨v1, v2, v3, rfl, h1, h2, h3, hb⟩
  obtain ⟨A1, c1, rfl⟩ := Kd.R_slice h1
  obtain ⟨A2, c2, rfl⟩ := Kd.R_slice h2
  obtain ⟨A3, c3, rfl⟩ := Kd.R_slice h3
  exact ⟨_, rfl, ⟨⟨A1, c1, A2, c2, A3, c3⟩, rfl, ⟨(Kd.R_reads' h1).2.2, (Kd.R_reads' h1).2.1, (Kd.R_reads' h2).2.2, (Kd.R_reads' h2).2.1, (Kd.R_reads' h3).2.2, (Kd.R_reads' h3).2.1⟩⟩, hb⟩
theorem resL_len {α : Type} (m : Bool) (l : List α) : (resL m l).length ≤ l.length := by cases m <;> simp [resL]
theorem nmerge_c (W : World) (p1 p2 : At) (b1 b2 : Bool) (K1 V1 K2 V2 : List ByteArray) (D1 D2 : List Int) (key : ByteArray) (h1 : Bk W p1 b1 K1 V1 D1) (h2 : Bk W p2 b2 K2 V2 D2)
    (l1 : K1.length ≤ 300 ∧ V1.length ≤ 300 ∧ D1.length ≤ 300) (l2 : K2.length ≤ 300 ∧ V2.length ≤ 300 ∧ D2.length ≤ 300) (m : Bool) (hm : m = true ↔ MergeP b1 K1 V1 D1 key b2 K2 V2 D2) :
    Calls Try.prog 22 #[.agg #[.bool b1, .slice p1.a1 K1.length p1.c1, .slice p1.a2 V1.length p1.c2, .slice p1.a3 D1.length p1.c3], .string key, .agg #[.bool b2, .slice p2.a1 K2.length p2.c1, .slice p2.a2 V2.length p2.c2, .slice p2.a3 D2.length p2.c3]] W fun e w' =>
      ∃ v, e = .returned v ∧ TupR W.heap.size w' v m (m && b1) (resL m (outK b1 K1 key K2)) (resL m (V1 ++ V2)) (resL m (D1 ++ D2)) ∧ Below W.heap.size W w' :=
  (node_merge W p1 p2 b1 b2 K1 V1 K2 V2 D1 D2 key h1 h2 l1 l2 m hm).mono (fun e w' h => by
    obtain ⟨p, he, hb, hB⟩ := h
    exact ⟨_, he, ⟨p, rfl, hb⟩, hB⟩)
theorem rmerge_c (W : World) (p1 p2 : At) (b1 b2 : Bool) (K1 V1 K2 V2 : List ByteArray) (D1 D2 : List Int) (key : ByteArray) (h1 : Bk W p1 b1 K1 V1 D1) (h2 : Bk W p2 b2 K2 V2 D2)
    (l1 : K1.length ≤ 300 ∧ V1.length ≤ 300 ∧ D1.length ≤ 300) (l2 : K2.length ≤ 300 ∧ V2.length ≤ 300 ∧ D2.length ≤ 300) (m : Bool) (hm : m = true ↔ MergeP b1 K1 V1 D1 key b2 K2 V2 D2) :
    Calls Try.prog 23 #[.agg #[.bool b1, .slice p1.a1 K1.length p1.c1, .slice p1.a2 V1.length p1.c2, .slice p1.a3 D1.length p1.c3], .string key, .agg #[.bool b2, .slice p2.a1 K2.length p2.c1, .slice p2.a2 V2.length p2.c2, .slice p2.a3 D2.length p2.c3]] W fun e w' =>
      ∃ v, e = .returned v ∧ TupR W.heap.size w' v m (m && b1) (resL m (outK b1 K1 key K2)) (resL m (V1 ++ V2)) (resL m (D1 ++ D2)) ∧ Below W.heap.size W w' :=
  (ref_merge W p1 p2 b1 b2 K1 V1 K2 V2 D1 D2 key h1 h2 l1 l2 m hm).mono (fun e w' h => by
    obtain ⟨p, he, hb, hB⟩ := h
    exact ⟨_, he, ⟨p, rfl, hb⟩, hB⟩)
theorem boxes2 (W : World) (o3 o5 : Obj) : ((W.alloc o3).alloc o5).heap[W.heap.size]? = some o3 ∧ ((W.alloc o3).alloc o5).heap[W.heap.size + 1]? = some o5 ∧ Below W.heap.size W ((W.alloc o3).alloc o5) := by
  obtain ⟨h3, h5, _, hb, _⟩ := boxes3 W o3 o5 o3
  have s1 : (W.alloc o3).heap.size = W.heap.size + 1 := by simp
  have b1 : Below W.heap.size W (W.alloc o3) := below_alloc (Below.refl _ _) _
  refine ⟨blk_below (blk_new W o3) (below_alloc (Below.refl _ _) _), ?_, b1.alloc b1.size _⟩
  have := blk_new (W.alloc o3) o5
  rw [s1] at this
  exact this
set_option maxHeartbeats 8000000 in
set_option maxRecDepth 100000 in
theorem merges_calls (W : World) (p1 p2 : At) (b1 b2 : Bool) (K1 V1 K2 V2 : List ByteArray) (D1 D2 : List Int) (key : ByteArray) (h1 : Bk W p1 b1 K1 V1 D1) (h2 : Bk W p2 b2 K2 V2 D2) :
    Calls Try.prog 6 #[.agg #[.bool b1, .slice p1.a1 K1.length p1.c1, .slice p1.a2 V1.length p1.c2, .slice p1.a3 D1.length p1.c3], .string key, .agg #[.bool b2, .slice p2.a1 K2.length p2.c1, .slice p2.a2 V2.length p2.c2, .slice p2.a3 D2.length p2.c3]] W fun e w' => e = .returned (.bool true) ∧ Below W.heap.size W w' := by
  obtain ⟨r1, hs1, hr1⟩ := few_c (b := b1) (K := K1) (V := V1) (D := D1)
  obtain ⟨r2, hs2, hr2⟩ := few_c (b := b2) (K := K2) (V := V2) (D := D2)
  obtain ⟨m, hm⟩ := is_bool (MergeP b1 K1 V1 D1 key b2 K2 V2 D2)
  have HM := Aside0.mk hm
  have HC1 := Aside0.mk (fun (w : World) (hB : Below W.heap.size W w) => hr1 w p1 (h1.below hB))
  have HC2 := Aside0.mk (fun (w : World) (hB : Below W.heap.size W w) => hr2 w p2 (h2.below hB))
  have HSM := Aside0.mk (And.intro hs1 hs2)
  have HK1 := Aside0.mk h1
  have HK2 := Aside0.mk h2
  clear hm hr1 hr2 hs1 hs2 h1 h2
  obtain ⟨a1, c1, a2, c2, a3, c3⟩ := p1
  obtain ⟨a4, c4, a5, c5, a6, c6⟩ := p2
  dsimp only at HC1 HC2 ⊢
  go_enter Try.func6, Try.ntmps6
  go_upto_region 1 with fail
  obtain ⟨w0, hw0⟩ : ∃ w0, w0 = (W.alloc (.cells #[.bool b1, .slice a1 K1.length c1, .slice a2 V1.length c2, .slice a3 D1.length c3] 25)).alloc (.cells #[.bool b2, .slice a4 K2.length c4, .slice a5 V2.length c5, .slice a6 D2.length c6] 25) := ⟨_, rfl⟩
  have hbx := boxes2 W (.cells #[.bool b1, .slice a1 K1.length c1, .slice a2 V1.length c2, .slice a3 D1.length c3] 25) (.cells #[.bool b2, .slice a4 K2.length c4, .slice a5 V2.length c5, .slice a6 D2.length c6] 25)
  rw [← hw0] at hbx ⊢
  clear hw0
  obtain ⟨g3, hg3⟩ : ∃ g, g = W.heap.size := ⟨_, rfl⟩
  rw [← hg3] at hbx ⊢
  obtain ⟨g5, hg5⟩ : ∃ g, g = g3 + 1 := ⟨_, rfl⟩
  rw [← hg5] at hbx ⊢
  obtain ⟨q3, q5, hB0⟩ := hbx
  rw [hg3] at hB0
  obtain ⟨x0, x1, x2, x3⟩ := cells_of q3
  have HQ3 := Aside0.mk q3
  have HQ5 := Aside0.mk q5
  have HB0 := Aside0.mk hB0
  clear q3 q5 hB0 hg3 hg5
  cases r1 with
  | false =>
    go_wp2_with (first
      | (go_at_call 8; first
        | (refine (HC2.out w1 HB1.out).mono ?_; rintro e w2 ⟨rfl, h1⟩; have HB2 := Aside0.mk (HB1.out.trans (h1.mono HB1.out.size)); have HQ3b := Aside0.mk (blk_below HQ3a.out h1); have HQ5b := Aside0.mk (blk_below HQ5a.out h1); clear h1)
        | (refine (HC1.out w0 HB0.out).mono ?_; rintro e w1 ⟨rfl, h1⟩; have HB1 := Aside0.mk (HB0.out.trans (h1.mono HB0.out.size)); have hq5 := blk_below HQ5.out h1; obtain ⟨s0, s1, s2, s3⟩ := cells_of hq5; have HQ3a := Aside0.mk (blk_below HQ3.out h1); have HQ5a := Aside0.mk hq5; clear h1 hq5))
      | (go_at_call 10; refine (lives_c _).mono ?_; rintro e w9 ⟨rfl, h1⟩; have HB9 := Aside0.mk (HB1.out.trans (h1.mono HB1.out.size)); clear h1))
    go_ret
    exact ⟨rfl, HB9.out⟩
  | true =>
   cases r2 with
   | false =>
    go_wp2_with (first
      | (go_at_call 8; first
        | (refine (HC2.out w1 HB1.out).mono ?_; rintro e w2 ⟨rfl, h1⟩; have HB2 := Aside0.mk (HB1.out.trans (h1.mono HB1.out.size)); have HQ3b := Aside0.mk (blk_below HQ3a.out h1); have HQ5b := Aside0.mk (blk_below HQ5a.out h1); clear h1)
        | (refine (HC1.out w0 HB0.out).mono ?_; rintro e w1 ⟨rfl, h1⟩; have HB1 := Aside0.mk (HB0.out.trans (h1.mono HB0.out.size)); have hq5 := blk_below HQ5.out h1; obtain ⟨s0, s1, s2, s3⟩ := cells_of hq5; have HQ3a := Aside0.mk (blk_below HQ3.out h1); have HQ5a := Aside0.mk hq5; clear h1 hq5))
      | (go_at_call 10; refine (lives_c _).mono ?_; rintro e w9 ⟨rfl, h1⟩; have HB9 := Aside0.mk (HB2.out.trans (h1.mono HB2.out.size)); clear h1))
    go_ret
    exact ⟨rfl, HB9.out⟩
   | true =>
    have s1 := HSM.out.1 rfl
    have s2 := HSM.out.2 rfl
    have HLL := Aside0.mk (show (K1.length ≤ 300 ∧ V1.length ≤ 300 ∧ D1.length ≤ 300) ∧ (K2.length ≤ 300 ∧ V2.length ≤ 300 ∧ D2.length ≤ 300) by omega)
    clear s1 s2
    go_upto_region 3 with (first
      | (go_at_call 8; first
        | (refine (HC2.out w1 HB1.out).mono ?_; rintro e w2 ⟨rfl, h1⟩; have HB2 := Aside0.mk (HB1.out.trans (h1.mono HB1.out.size)); have HQ3b := Aside0.mk (blk_below HQ3a.out h1); have HQ5b := Aside0.mk (blk_below HQ5a.out h1); clear h1)
        | (refine (HC1.out w0 HB0.out).mono ?_; rintro e w1 ⟨rfl, h1⟩; have HB1 := Aside0.mk (HB0.out.trans (h1.mono HB0.out.size)); have hq5 := blk_below HQ5.out h1; obtain ⟨s0, s1, s2, s3⟩ := cells_of hq5; have HQ3a := Aside0.mk (blk_below HQ3.out h1); have HQ5a := Aside0.mk hq5; clear h1 hq5)))
    clear x0 x1 x2 x3 s0 s1 s2 s3
    have hdr : Below w2.heap.size w2 w2.drew := below_drew (Below.refl _ _)
    refine start_ (n := 12) (S := fun w' => Below w2.heap.size w2 w') (ds := []) #[false, false, false, false, false, false, false, false, false, false, false, false] (by kernel_rfl) rfl rfl hdr (fun hHeld => ?_)
    refine pure_ (i := 2) (N := some 23) (v := ?_) (a' := ?_) #[false, false, true, false, false, false, false, false, false, false, false, false] rfl rfl (by kernel_rfl) (fun _ _ _ h => h) (Or.inl ⟨by rfl, ?_⟩) ?_ ?_
    rotate_left
    · intro w'
      go_simp
      with_reducible rfl
    rotate_left
    · simp only [Act.put, List.setIfInBounds_toArray, List.set_cons_zero, List.set_cons_succ]
      rfl
    refine take_ (i := 0) (N := some 21) (v := ?_) (a' := ?_) #[true, false, true, false, false, false, false, false, false, false, false, false] rfl rfl (by kernel_rfl) (fun _ _ _ h => h) (Or.inl ⟨by rfl, ?_⟩) hHeld ?_ ?_
    rotate_left
    · intro w' s0
      obtain ⟨s1, s2, s3, s4⟩ := cells_of (blk_below HQ3b.out s0)
      go_simp
      with_reducible rfl
    rotate_left
    · simp only [Act.put, List.setIfInBounds_toArray, List.set_cons_zero, List.set_cons_succ]
      rfl
    refine take_ (i := 3) (N := some 24) (v := ?_) (a' := ?_) #[true, false, true, true, false, false, false, false, false, false, false, false] rfl rfl (by kernel_rfl) (fun _ _ _ h => h) (Or.inl ⟨by rfl, ?_⟩) hHeld ?_ ?_
    rotate_left
    · intro w' s0
      obtain ⟨s1, s2, s3, s4⟩ := cells_of (blk_below HQ5b.out s0)
      go_simp
      with_reducible rfl
    rotate_left
    · simp only [Act.put, List.setIfInBounds_toArray, List.set_cons_zero, List.set_cons_succ]
      rfl
    refine lattice3 (l0 := #[true, false, true, true, false, false, false, false, false, false, false, false]) [1, 4, 5, 9, 6, 7, 8, 10] [[false, false, false, false, false, false, false, false], [true, false, false, false, false, false, false, false], [true, true, false, false, false, false, false, false], [true, true, true, false, false, false, false, false], [false, false, false, true, false, false, false, false], [true, false, false, true, false, false, false, false], [true, true, false, true, false, false, false, false], [true, true, true, true, false, false, false, false], [true, true, true, false, true, false, false, false], [true, true, true, true, true, false, false, false], [true, true, true, false, true, true, false, false], [true, true, true, true, true, true, false, false], [true, true, true, false, true, false, true, false], [true, true, true, true, true, false, true, false], [true, true, true, false, true, true, true, false], [true, true, true, true, true, true, true, false], [true, true, true, true, true, true, false, true], [true, true, true, true, true, true, true, true]] [22, 25, 26, 7, 20, 27, 28, 0] (by kernel_rfl) (by kernel_rfl) (by decide) (by kernel_rfl) (by kernel_rfl) (by kernel_rfl) (fun d xs w' => ∃ x0 x1 x2 x3 x4 x5 x6 x7, xs = [x0, x1, x2, x3, x4, x5, x6, x7] ∧ (d.getD 0 false = true → d.getD 2 true = false → OwnAt w' x0 b1 K1 V1 D1) ∧ (d.getD 1 false = true → d.getD 2 true = false → OwnAt w' x1 b2 K2 V2 D2) ∧ (d.getD 2 false = true → d.getD 4 true = false → TupR w2.heap.size w' x2 m (m && b1) (resL m (outK b1 K1 key K2)) (resL m (V1 ++ V2)) (resL m (D1 ++ D2))) ∧ (d.getD 3 false = true → d.getD 7 true = false → BoxAt w2.heap.size w' x3 #[.bool false, .slice none 0 0, .slice none 0 0, .slice none 0 0]) ∧ (d.getD 4 false = true → TupR w2.heap.size w' x4 m (m && b1) (resL m (outK b1 K1 key K2)) (resL m (V1 ++ V2)) (resL m (D1 ++ D2))) ∧ (d.getD 5 false = true → d.getD 7 true = false → OwnR w2.heap.size w' x5 (m && b1) (resL m (outK b1 K1 key K2)) (resL m (V1 ++ V2)) (resL m (D1 ++ D2))) ∧ (d.getD 6 false = true → x6 = .bool m) ∧ (d.getD 7 false = true → StoredAt w2.heap.size w' x3 (m && b1) (resL m (outK b1 K1 key K2)) (resL m (V1 ++ V2)) (resL m (D1 ++ D2)))) 1 rfl (by kernel_rfl) hHeld ?hF ?hstep ?hfin
    case hF =>
      intro xs hx
      match xs, hx with
      | [x0, x1, x2, x3, x4, x5, x6, x7], _ => exact ⟨x0, x1, x2, x3, x4, x5, x6, x7, rfl, fun h _ => absurd h (by decide), fun h _ => absurd h (by decide), fun h _ => absurd h (by decide), fun h _ => absurd h (by decide), fun h => absurd h (by decide), fun h _ => absurd h (by decide), fun h => absurd h (by decide), fun h => absurd h (by decide)⟩
    case hstep =>
      intro j hj
      have hj : j < 8 := hj
      rcases (by omega : j = 0 ∨ j = 1 ∨ j = 2 ∨ j = 3 ∨ j = 4 ∨ j = 5 ∨ j = 6 ∨ j = 7) with rfl | rfl | rfl | rfl | rfl | rfl | rfl | rfl
      · intro d hd hjn hn xs wl hx hSl ⟨x0, x1, x2, x3, x4, x5, x6, x7, hxs, fa, fb, fc, fp, ft, fx, fk, fs⟩ a' ha o ho K hK
        subst hxs
        obtain rfl := Option.some.inj (ho.symm.trans (rfl : _ = some _))
        simp only [putVs, Act.put, List.setIfInBounds_toArray, List.set_cons_zero, List.set_cons_succ] at ha
        subst ha
        have hbl := HB2.out.trans (hSl.mono HB2.out.size)
        refine goes_ Try.func18 (by kernel_rfl) rfl #[.agg #[.bool b1, .slice a1 K1.length c1, .slice a2 V1.length c2, .slice a3 D1.length c3]] (by rfl) rfl rfl (by (try simp only [List.map_toArray, List.map_cons, List.map_nil]); first | done | rfl) ?_
        refine (own_c (HK1.out.below hbl) (by have := HLL.out; omega)).mono ?_
        rintro e w6 ⟨v6, rfl, h4, hb⟩
        refine ⟨v6, rfl, ?_⟩
        exact hK.out v6 w6 (hSl.trans (hb.mono hSl.size)) ⟨_, _, _, _, _, _, _, _, rfl, fun h0 n2 => h4, fun h1 n2 => absurd ((on_ne d 0 1 (by decide)).symm.trans h1) (fun h2 => bit_abs (before_of (j := 0) (k := 1) (by kernel_rfl) hd hjn hn) h2), fun h2 n4 => absurd ((on_ne d 0 2 (by decide)).symm.trans h2) (fun h2 => bit_abs (before_of (j := 0) (k := 2) (by kernel_rfl) hd hjn hn) h2), fun h3 n7 => (fp ((on_ne d 0 3 (by decide)).symm.trans h3) ((on_net d 0 7 (by decide)).symm.trans n7)).below hb, fun h4 => absurd ((on_ne d 0 4 (by decide)).symm.trans h4) (fun h2 => bit_abs (before_of (j := 0) (k := 4) (by kernel_rfl) hd hjn hn) h2), fun h5 n7 => absurd ((on_ne d 0 5 (by decide)).symm.trans h5) (fun h2 => bit_abs (before_of (j := 0) (k := 5) (by kernel_rfl) hd hjn hn) h2), fun h6 => absurd ((on_ne d 0 6 (by decide)).symm.trans h6) (fun h2 => bit_abs (before_of (j := 0) (k := 6) (by kernel_rfl) hd hjn hn) h2), fun h7 => absurd ((on_ne d 0 7 (by decide)).symm.trans h7) (fun h2 => bit_abs (before_of (j := 0) (k := 7) (by kernel_rfl) hd hjn hn) h2)⟩
      · intro d hd hjn hn xs wl hx hSl ⟨x0, x1, x2, x3, x4, x5, x6, x7, hxs, fa, fb, fc, fp, ft, fx, fk, fs⟩ a' ha o ho K hK
        subst hxs
        obtain rfl := Option.some.inj (ho.symm.trans (rfl : _ = some _))
        simp only [putVs, Act.put, List.setIfInBounds_toArray, List.set_cons_zero, List.set_cons_succ] at ha
        subst ha
        have hbl := HB2.out.trans (hSl.mono HB2.out.size)
        refine goes_ Try.func18 (by kernel_rfl) rfl #[.agg #[.bool b2, .slice a4 K2.length c4, .slice a5 V2.length c5, .slice a6 D2.length c6]] (by rfl) rfl rfl (by (try simp only [List.map_toArray, List.map_cons, List.map_nil]); first | done | rfl) ?_
        refine (own_c (HK2.out.below hbl) (by have := HLL.out; omega)).mono ?_
        rintro e w6 ⟨v6, rfl, h4, hb⟩
        refine ⟨v6, rfl, ?_⟩
        exact hK.out v6 w6 (hSl.trans (hb.mono hSl.size)) ⟨_, _, _, _, _, _, _, _, rfl, fun h0 n2 => (fa (after_of (j := 1) (k := 0) (by kernel_rfl) hd hjn hn) ((on_net d 1 2 (by decide)).symm.trans n2)).below hb, fun h1 n2 => h4, fun h2 n4 => absurd ((on_ne d 1 2 (by decide)).symm.trans h2) (fun h2 => bit_abs (before_of (j := 1) (k := 2) (by kernel_rfl) hd hjn hn) h2), fun h3 n7 => (fp ((on_ne d 1 3 (by decide)).symm.trans h3) ((on_net d 1 7 (by decide)).symm.trans n7)).below hb, fun h4 => absurd ((on_ne d 1 4 (by decide)).symm.trans h4) (fun h2 => bit_abs (before_of (j := 1) (k := 4) (by kernel_rfl) hd hjn hn) h2), fun h5 n7 => absurd ((on_ne d 1 5 (by decide)).symm.trans h5) (fun h2 => bit_abs (before_of (j := 1) (k := 5) (by kernel_rfl) hd hjn hn) h2), fun h6 => absurd ((on_ne d 1 6 (by decide)).symm.trans h6) (fun h2 => bit_abs (before_of (j := 1) (k := 6) (by kernel_rfl) hd hjn hn) h2), fun h7 => absurd ((on_ne d 1 7 (by decide)).symm.trans h7) (fun h2 => bit_abs (before_of (j := 1) (k := 7) (by kernel_rfl) hd hjn hn) h2)⟩
      · intro d hd hjn hn xs wl hx hSl ⟨x0, x1, x2, x3, x4, x5, x6, x7, hxs, fa, fb, fc, fp, ft, fx, fk, fs⟩ a' ha o ho K hK
        subst hxs
        obtain rfl := Option.some.inj (ho.symm.trans (rfl : _ = some _))
        simp only [putVs, Act.put, List.setIfInBounds_toArray, List.set_cons_zero, List.set_cons_succ] at ha
        subst ha
        have ga := fa (after_of (j := 2) (k := 0) (by kernel_rfl) hd hjn hn) hjn
        have gb := fb (after_of (j := 2) (k := 1) (by kernel_rfl) hd hjn hn) hjn
        have hbl := HB2.out.trans (hSl.mono HB2.out.size)
        obtain ⟨pa, rfl, hpa⟩ := ga
        obtain ⟨pb, rfl, hpb⟩ := gb
        refine goes_ Try.func22 (by kernel_rfl) rfl #[.agg #[.bool b1, .slice pa.a1 K1.length pa.c1, .slice pa.a2 V1.length pa.c2, .slice pa.a3 D1.length pa.c3], .string key, .agg #[.bool b2, .slice pb.a1 K2.length pb.c1, .slice pb.a2 V2.length pb.c2, .slice pb.a3 D2.length pb.c3]] (by rfl) rfl rfl (by (try simp only [List.map_toArray, List.map_cons, List.map_nil]); first | done | rfl) ?_
        refine (nmerge_c wl pa pb b1 b2 K1 V1 K2 V2 D1 D2 key hpa hpb HLL.out.1 HLL.out.2 m HM.out).mono ?_
        rintro e w6 ⟨v6, rfl, h4, hb⟩
        refine ⟨v6, rfl, ?_⟩
        exact hK.out v6 w6 (hSl.trans (hb.mono hSl.size)) ⟨_, _, _, _, _, _, _, _, rfl, fun h0 n2 => absurd n2 (by rw [on_att]; decide), fun h1 n2 => absurd n2 (by rw [on_att]; decide), fun h2 n4 => (h4.lower hSl.size), fun h3 n7 => (fp ((on_ne d 2 3 (by decide)).symm.trans h3) ((on_net d 2 7 (by decide)).symm.trans n7)).below hb, fun h4 => absurd ((on_ne d 2 4 (by decide)).symm.trans h4) (fun h2 => bit_abs (before_of (j := 2) (k := 4) (by kernel_rfl) hd hjn hn) h2), fun h5 n7 => absurd ((on_ne d 2 5 (by decide)).symm.trans h5) (fun h2 => bit_abs (before_of (j := 2) (k := 5) (by kernel_rfl) hd hjn hn) h2), fun h6 => absurd ((on_ne d 2 6 (by decide)).symm.trans h6) (fun h2 => bit_abs (before_of (j := 2) (k := 6) (by kernel_rfl) hd hjn hn) h2), fun h7 => absurd ((on_ne d 2 7 (by decide)).symm.trans h7) (fun h2 => bit_abs (before_of (j := 2) (k := 7) (by kernel_rfl) hd hjn hn) h2)⟩
      · intro d hd hjn hn xs wl hx hSl ⟨x0, x1, x2, x3, x4, x5, x6, x7, hxs, fa, fb, fc, fp, ft, fx, fk, fs⟩ a' ha o ho K hK
        subst hxs
        obtain rfl := Option.some.inj (ho.symm.trans (rfl : _ = some _))
        simp only [putVs, Act.put, List.setIfInBounds_toArray, List.set_cons_zero, List.set_cons_succ] at ha
        subst ha
        have hb : Below wl.heap.size wl (wl.alloc (.cells #[.bool false, .slice none 0 0, .slice none 0 0, .slice none 0 0] 25)) := below_alloc (Below.refl _ _) _
        refine value_ rfl rfl (v := .pointer (some ⟨wl.heap.size, 0, none⟩)) (w1 := wl.alloc (.cells #[.bool false, .slice none 0 0, .slice none 0 0, .slice none 0 0] 25)) (by first | (go_simp; done) | (go_simp; rfl)) ?_
        exact hK.out (.pointer (some ⟨wl.heap.size, 0, none⟩)) _ (hSl.trans (hb.mono hSl.size)) ⟨_, _, _, _, _, _, _, _, rfl, fun h0 n2 => (fa ((on_ne d 3 0 (by decide)).symm.trans h0) ((on_net d 3 2 (by decide)).symm.trans n2)).below hb, fun h1 n2 => (fb ((on_ne d 3 1 (by decide)).symm.trans h1) ((on_net d 3 2 (by decide)).symm.trans n2)).below hb, fun h2 n4 => (fc ((on_ne d 3 2 (by decide)).symm.trans h2) ((on_net d 3 4 (by decide)).symm.trans n4)).below hb, fun h3 n7 => ⟨_, rfl, blk_new wl _, hSl.size⟩, fun h4 => (ft ((on_ne d 3 4 (by decide)).symm.trans h4)).below hb, fun h5 n7 => (fx ((on_ne d 3 5 (by decide)).symm.trans h5) ((on_net d 3 7 (by decide)).symm.trans n7)).below hb, fun h6 => (fk ((on_ne d 3 6 (by decide)).symm.trans h6)), fun h7 => absurd ((on_ne d 3 7 (by decide)).symm.trans h7) (fun h2 => bit_abs (before_of (j := 3) (k := 7) (by kernel_rfl) hd hjn hn) h2)⟩
      · intro d hd hjn hn xs wl hx hSl ⟨x0, x1, x2, x3, x4, x5, x6, x7, hxs, fa, fb, fc, fp, ft, fx, fk, fs⟩ a' ha o ho K hK
        subst hxs
        obtain rfl := Option.some.inj (ho.symm.trans (rfl : _ = some _))
        simp only [putVs, Act.put, List.setIfInBounds_toArray, List.set_cons_zero, List.set_cons_succ] at ha
        subst ha
        have gc := fc (after_of (j := 4) (k := 2) (by kernel_rfl) hd hjn hn) hjn
        have hb : Below wl.heap.size wl wl := Below.refl _ _
        obtain ⟨pm, rfl, hbm⟩ := gc
        refine value_ rfl rfl (v := .tuple #[.agg #[.bool (m && b1), .slice pm.a1 (resL m (outK b1 K1 key K2)).length pm.c1, .slice pm.a2 (resL m (V1 ++ V2)).length pm.c2, .slice pm.a3 (resL m (D1 ++ D2)).length pm.c3], .bool m]) (w1 := wl) (by first | (go_simp; done) | (go_simp; rfl)) ?_
        exact hK.out (.tuple #[.agg #[.bool (m && b1), .slice pm.a1 (resL m (outK b1 K1 key K2)).length pm.c1, .slice pm.a2 (resL m (V1 ++ V2)).length pm.c2, .slice pm.a3 (resL m (D1 ++ D2)).length pm.c3], .bool m]) wl hSl ⟨_, _, _, _, _, _, _, _, rfl, fun h0 n2 => (bit_abs ((on_net d 4 2 (by decide)).symm.trans n2) (after_of (j := 4) (k := 2) (by kernel_rfl) hd hjn hn)).elim, fun h1 n2 => (bit_abs ((on_net d 4 2 (by decide)).symm.trans n2) (after_of (j := 4) (k := 2) (by kernel_rfl) hd hjn hn)).elim, fun h2 n4 => absurd n4 (by rw [on_att]; decide), fun h3 n7 => (fp ((on_ne d 4 3 (by decide)).symm.trans h3) ((on_net d 4 7 (by decide)).symm.trans n7)).below hb, fun h4 => ⟨pm, rfl, hbm⟩, fun h5 n7 => absurd ((on_ne d 4 5 (by decide)).symm.trans h5) (fun h2 => bit_abs (before_of (j := 4) (k := 5) (by kernel_rfl) hd hjn hn) h2), fun h6 => absurd ((on_ne d 4 6 (by decide)).symm.trans h6) (fun h2 => bit_abs (before_of (j := 4) (k := 6) (by kernel_rfl) hd hjn hn) h2), fun h7 => absurd ((on_ne d 4 7 (by decide)).symm.trans h7) (fun h2 => bit_abs (before_of (j := 4) (k := 7) (by kernel_rfl) hd hjn hn) h2)⟩
      · intro d hd hjn hn xs wl hx hSl ⟨x0, x1, x2, x3, x4, x5, x6, x7, hxs, fa, fb, fc, fp, ft, fx, fk, fs⟩ a' ha o ho K hK
        subst hxs
        obtain rfl := Option.some.inj (ho.symm.trans (rfl : _ = some _))
        simp only [putVs, Act.put, List.setIfInBounds_toArray, List.set_cons_zero, List.set_cons_succ] at ha
        subst ha
        have gt := ft (after_of (j := 5) (k := 4) (by kernel_rfl) hd hjn hn)
        have hb : Below wl.heap.size wl wl := Below.refl _ _
        obtain ⟨pm, rfl, hbm⟩ := gt
        refine value_ rfl rfl (v := .agg #[.bool (m && b1), .slice pm.a1 (resL m (outK b1 K1 key K2)).length pm.c1, .slice pm.a2 (resL m (V1 ++ V2)).length pm.c2, .slice pm.a3 (resL m (D1 ++ D2)).length pm.c3]) (w1 := wl) (by first | (go_simp; done) | (go_simp; rfl)) ?_
        exact hK.out (.agg #[.bool (m && b1), .slice pm.a1 (resL m (outK b1 K1 key K2)).length pm.c1, .slice pm.a2 (resL m (V1 ++ V2)).length pm.c2, .slice pm.a3 (resL m (D1 ++ D2)).length pm.c3]) wl hSl ⟨_, _, _, _, _, _, _, _, rfl, fun h0 n2 => (bit_abs ((on_net d 5 2 (by decide)).symm.trans n2) (after_of (j := 5) (k := 2) (by kernel_rfl) hd hjn hn)).elim, fun h1 n2 => (bit_abs ((on_net d 5 2 (by decide)).symm.trans n2) (after_of (j := 5) (k := 2) (by kernel_rfl) hd hjn hn)).elim, fun h2 n4 => (bit_abs ((on_net d 5 4 (by decide)).symm.trans n4) (after_of (j := 5) (k := 4) (by kernel_rfl) hd hjn hn)).elim, fun h3 n7 => (fp ((on_ne d 5 3 (by decide)).symm.trans h3) ((on_net d 5 7 (by decide)).symm.trans n7)).below hb, fun h4 => (ft (after_of (j := 5) (k := 4) (by kernel_rfl) hd hjn hn)).below hb, fun h5 n7 => ⟨pm, rfl, hbm⟩, fun h6 => (fk ((on_ne d 5 6 (by decide)).symm.trans h6)), fun h7 => absurd ((on_ne d 5 7 (by decide)).symm.trans h7) (fun h2 => bit_abs (before_of (j := 5) (k := 7) (by kernel_rfl) hd hjn hn) h2)⟩
      · intro d hd hjn hn xs wl hx hSl ⟨x0, x1, x2, x3, x4, x5, x6, x7, hxs, fa, fb, fc, fp, ft, fx, fk, fs⟩ a' ha o ho K hK
        subst hxs
        obtain rfl := Option.some.inj (ho.symm.trans (rfl : _ = some _))
        simp only [putVs, Act.put, List.setIfInBounds_toArray, List.set_cons_zero, List.set_cons_succ] at ha
        subst ha
        have gt := ft (after_of (j := 6) (k := 4) (by kernel_rfl) hd hjn hn)
        have hb : Below wl.heap.size wl wl := Below.refl _ _
        obtain ⟨pm, rfl, hbm⟩ := gt
        refine value_ rfl rfl (v := .bool m) (w1 := wl) (by first | (go_simp; done) | (go_simp; rfl)) ?_
        exact hK.out (.bool m) wl hSl ⟨_, _, _, _, _, _, _, _, rfl, fun h0 n2 => (bit_abs ((on_net d 6 2 (by decide)).symm.trans n2) (after_of (j := 6) (k := 2) (by kernel_rfl) hd hjn hn)).elim, fun h1 n2 => (bit_abs ((on_net d 6 2 (by decide)).symm.trans n2) (after_of (j := 6) (k := 2) (by kernel_rfl) hd hjn hn)).elim, fun h2 n4 => (bit_abs ((on_net d 6 4 (by decide)).symm.trans n4) (after_of (j := 6) (k := 4) (by kernel_rfl) hd hjn hn)).elim, fun h3 n7 => (fp ((on_ne d 6 3 (by decide)).symm.trans h3) ((on_net d 6 7 (by decide)).symm.trans n7)).below hb, fun h4 => (ft (after_of (j := 6) (k := 4) (by kernel_rfl) hd hjn hn)).below hb, fun h5 n7 => (fx ((on_ne d 6 5 (by decide)).symm.trans h5) ((on_net d 6 7 (by decide)).symm.trans n7)).below hb, fun h6 => rfl, fun h7 => (fs ((on_ne d 6 7 (by decide)).symm.trans h7)).below hb⟩
      · intro d hd hjn hn xs wl hx hSl ⟨x0, x1, x2, x3, x4, x5, x6, x7, hxs, fa, fb, fc, fp, ft, fx, fk, fs⟩ a' ha o ho K hK
        subst hxs
        obtain rfl := Option.some.inj (ho.symm.trans (rfl : _ = some _))
        simp only [putVs, Act.put, List.setIfInBounds_toArray, List.set_cons_zero, List.set_cons_succ] at ha
        subst ha
        have gp := fp (after_of (j := 7) (k := 3) (by kernel_rfl) hd hjn hn) hjn
        have gt := ft (after_of (j := 7) (k := 4) (by kernel_rfl) hd hjn hn)
        have gx := fx (after_of (j := 7) (k := 5) (by kernel_rfl) hd hjn hn) hjn
        obtain ⟨g7, rfl, hq7, hg7⟩ := gp
        obtain ⟨pm, rfl, hbm⟩ := gx
        obtain ⟨i0, i1, i2, i3⟩ := cells_of hq7
        have j0 := frz_of hq7 0
        have j1 := frz_of hq7 1
        have j2 := frz_of hq7 2
        have j3 := frz_of hq7 3
        refine skip_ rfl rfl (w1 := set4 wl g7 (.bool (m && b1)) (.slice pm.a1 (resL m (outK b1 K1 key K2)).length pm.c1) (.slice pm.a2 (resL m (V1 ++ V2)).length pm.c2) (.slice pm.a3 (resL m (D1 ++ D2)).length pm.c3)) (by first | (go_simp; done) | (go_simp; rfl)) ?_
        exact hK.out undef _ (set4_below hSl hg7 _ _ _ _) ⟨_, _, _, _, _, _, _, _, rfl, fun h0 n2 => (bit_abs ((on_net d 7 2 (by decide)).symm.trans n2) (after_of (j := 7) (k := 2) (by kernel_rfl) hd hjn hn)).elim, fun h1 n2 => (bit_abs ((on_net d 7 2 (by decide)).symm.trans n2) (after_of (j := 7) (k := 2) (by kernel_rfl) hd hjn hn)).elim, fun h2 n4 => (bit_abs ((on_net d 7 4 (by decide)).symm.trans n4) (after_of (j := 7) (k := 4) (by kernel_rfl) hd hjn hn)).elim, fun h3 n7 => absurd n7 (by rw [on_att]; decide), fun h4 => (ft (after_of (j := 7) (k := 4) (by kernel_rfl) hd hjn hn)).set4 hq7 _ _ _ _, fun h5 n7 => absurd n7 (by rw [on_att]; decide), fun h6 => (fk ((on_ne d 7 6 (by decide)).symm.trans h6)), fun h7 => ⟨g7, pm, rfl, set4_blk hq7 _ _ _ _, hg7, hbm.set4 hq7 _ _ _ _⟩⟩
    case hfin =>
      intro xs wl hx hSl ⟨x0, x1, x2, x3, x4, x5, x6, x7, hxs, fa, fb, fc, fp, ft, fx, fk, fs⟩ a' ha
      subst hxs
      simp only [putVs, Act.put, List.setIfInBounds_toArray, List.set_cons_zero, List.set_cons_succ] at ha
      subst ha
      have gt := ft (by decide)
      have gk := fk (by decide)
      have gs := fs (by decide)
      clear fa fb fc fp ft fx fk fs
      obtain ⟨g7, pmg7, rfl, hq7, hg7, hbm⟩ := gs
      subst gk
      have HBMg7 := Aside0.mk hbm
      have HQg7 := Aside0.mk hq7
      have HGg7 := Aside0.mk hg7
      have HSlg7 := Aside0.mk hSl
      clear gt hbm hq7 hg7
      have hHeld := hSl
      refine pure_ (i := 11) (N := some 8) (v := ?_) (a' := ?_) #[true, true, true, true, true, true, true, true, true, true, true, true] rfl rfl (by kernel_rfl) (fun _ _ _ h => h) (Or.inl ⟨by rfl, ?_⟩) ?_ ?_
      rotate_left
      · intro w'
        go_simp
        with_reducible rfl
      rotate_left
      · simp only [Act.put, List.setIfInBounds_toArray, List.set_cons_zero, List.set_cons_succ]
        rfl
      refine done_ (by kernel_rfl) ?_
      have hq3 := blk_below HQ3b.out hSl
      have hq5 := blk_below HQ5b.out hSl
      obtain ⟨z0, z1, z2, z3⟩ := cells_of hq3
      obtain ⟨t0, t1, t2, t3⟩ := cells_of hq5
      have HB3 := Aside0.mk (HB2.out.trans (hSl.mono HB2.out.size))
      clear hSl hHeld hdr hq3 hq5
      go_upto_region 5 with (first
        | (go_at_call 23; refine (rmerge_c wl ⟨a1, c1, a2, c2, a3, c3⟩ ⟨a4, c4, a5, c5, a6, c6⟩ b1 b2 K1 V1 K2 V2 D1 D2 key (HK1.out.below HB3.out) (HK2.out.below HB3.out) HLL.out.1 HLL.out.2 m HM.out).mono ?_; rintro e w4 ⟨v4, rfl, ⟨pm9, rfl, h1⟩, h2⟩; have HBMg9 := Aside0.mk h1; have HB4 := Aside0.mk h2; clear h1 h2))
      have hlen : (resL m (outK b1 K1 key K2)).length ≤ 1000000 ∧ (resL m (V1 ++ V2)).length ≤ 1000000 ∧ (resL m (D1 ++ D2)).length ≤ 1000000 := by
        have h1 := resL_len m (outK b1 K1 key K2)
        have h2 := resL_len m (V1 ++ V2)
        have h3 := resL_len m (D1 ++ D2)
        have h4 := HLL.out
        have h5 : (outK b1 K1 key K2).length ≤ K1.length + (1 + K2.length) := by
          unfold outK btw
          cases b1 <;> simp <;> omega
        rw [List.length_append] at h2 h3
        omega
      obtain ⟨w5, hw5⟩ : ∃ w5, w5 = w4.alloc (.cells #[.bool (m && b1), .slice pm9.a1 (resL m (outK b1 K1 key K2)).length pm9.c1, .slice pm9.a2 (resL m (V1 ++ V2)).length pm9.c2, .slice pm9.a3 (resL m (D1 ++ D2)).length pm9.c3] 25) := ⟨_, rfl⟩
      rw [← hw5]
      obtain ⟨g9, hg9⟩ : ∃ g9, g9 = w4.heap.size := ⟨_, rfl⟩
      rw [← hg9]
      have hq9 := blk_new w4 (.cells #[.bool (m && b1), .slice pm9.a1 (resL m (outK b1 K1 key K2)).length pm9.c1, .slice pm9.a2 (resL m (V1 ++ V2)).length pm9.c2, .slice pm9.a3 (resL m (D1 ++ D2)).length pm9.c3] 25 (0, 0))
      have hb5 : Below w4.heap.size w4 w5 := by rw [hw5]; exact below_alloc (Below.refl _ _) _
      rw [← hg9] at hq9
      have hq9' : w5.heap[g9]? = some (.cells #[.bool (m && b1), .slice pm9.a1 (resL m (outK b1 K1 key K2)).length pm9.c1, .slice pm9.a2 (resL m (V1 ++ V2)).length pm9.c2, .slice pm9.a3 (resL m (D1 ++ D2)).length pm9.c3] 25 (0, 0)) := by rw [hw5]; exact hq9
      have hb45 : Below wl.heap.size wl w5 := HB4.out.trans (hb5.mono HB4.out.size)
      have hq7 := blk_below HQg7.out hb45
      have hbk7 := (HBMg7.out.below hb45).bk (m && b1)
      have hbk9 := (HBMg9.out.below hb5).bk (m && b1)
      have HB5 := Aside0.mk (HB3.out.trans (hb45.mono HB3.out.size))
      clear hq9 hw5 hg9 hb5 hb45 z0 z1 z2 z3 t0 t1 t2 t3 HQg7 HBMg7 HBMg9 HB4
      generalize resL m (outK b1 K1 key K2) = Kr at *
      generalize resL m (V1 ++ V2) = Vr at *
      generalize resL m (D1 ++ D2) = Dr at *
      obtain ⟨k0, k1, k2, k3⟩ := cells_of hq7
      obtain ⟨l0, l1, l2, l3⟩ := cells_of hq9'
      have HS := Aside0.mk (same_c hbk7 hbk9 hlen)
      clear hq7 hq9' hbk7 hbk9 hlen
      go_wp2_with (first
        | (go_at_call 15; refine HS.out.mono ?_; rintro e w8 ⟨rfl, h1⟩; have HB8 := Aside0.mk (HB5.out.trans (h1.mono HB5.out.size)); clear h1)
        | (go_at_call 10; refine (lives_c _).mono ?_; rintro e w9 ⟨rfl, h1⟩; have HB9 := Aside0.mk (HB8.out.trans (h1.mono HB8.out.size)); clear h1))
      go_ret
      exact ⟨rfl, HB9.out⟩
end Go.Proofs.Ytbpnkgaomobpkaa.Mrg
