/- The law DiskApart, walked by hand (written by mkapart.py). -/
import Derived.Test.YtnaegemldpfllaaDisG
namespace Go.Proofs.Ytnaegemldpfllaa.Dis
open Go.RowKit Go.Proofs.YtnaegemldpfllaaW.PrintWords Go.Proofs.YtnaegemldpfllaaW.PrintLast Go.Proofs.YtnaegemldpfllaaW.PrintMore Go.Maps
set_option linter.unusedVariables false
set_option linter.unusedSimpArgs false
def E0 : D := newD 2
theorem E0q : newD 2 = E0 := rfl
theorem E0_on : E0.n = 2 ∧ E0.left = -1 ∧ E0.dead = false ∧ E0.cnt = 0 ∧ E0.since = [] ∧ E0.fast = fun _ => zeros := ⟨by kernel_rfl, by kernel_rfl, by kernel_rfl, by kernel_rfl, by kernel_rfl, rfl⟩
attribute [irreducible] E0
theorem callD_on {d : D} (h1 : d.left = -1) (h2 : d.dead = false) : callD d = (d, 0) := by
  unfold callD
  rw [if_neg (by rw [h1, h2]; decide), if_neg (by rw [h1]; decide)]
theorem there2 {d : D} (h : d.n = 2) (i : Int) (h0 : 0 ≤ i) (h1 : i < 2) : thereD d i = 0 := by
  unfold thereD
  rw [if_neg (by omega), if_neg (by rw [h]; omega)]
/-- The disk with one write on it. -/
def E1 (bt : List Int) : D := { E0 with since := [(0, pad bt)], cnt := 1 }
theorem E1_write (bt : List Int) (h : bt.length ≤ 512) : writeD E0 0 bt = (E1 bt, 0) := by
  obtain ⟨h1, h2, h3, h4, h5, h6⟩ := E0_on
  unfold writeD
  rw [callD_on h2 h3]
  simp only [there2 h1 0 (by decide) (by decide)]
  rw [if_neg (by simp), if_neg (by simp), if_neg (by omega)]
  unfold E1
  rw [h5, h4]
  rfl
theorem E1_read (bt : List Int) : readD (E1 bt) 0 = (E1 bt, pad bt, 0) := by
  obtain ⟨h1, h2, h3, h4, h5, h6⟩ := E0_on
  unfold readD
  rw [callD_on (d := E1 bt) h2 h3]
  simp only [there2 (d := E1 bt) h1 0 (by decide) (by decide)]
  rw [if_neg (by simp), if_neg (by simp)]
  rfl
def E2 (bt : List Int) : D := keepsD (E1 bt) (fun _ => true)
theorem E2_flush (bt : List Int) : flushD (E1 bt) = (E2 bt, 0) := by
  obtain ⟨h1, h2, h3, h4, h5, h6⟩ := E0_on
  unfold flushD
  rw [callD_on (d := E1 bt) h2 h3]
  rfl
theorem E2_bytes (bt : List Int) : bytesD (E2 bt) 0 = pad bt := by
  obtain ⟨h1, h2, h3, h4, h5, h6⟩ := E0_on
  have hn : (E2 bt).n = 2 := h1
  unfold bytesD
  rw [if_neg (by rw [hn]; omega)]
  rfl
def E3 (bt ct : List Int) : D := { E2 bt with since := [(1, pad ct)], cnt := 2 }
theorem E3_write (bt ct : List Int) (h : ct.length ≤ 512) : writeD (E2 bt) 1 ct = (E3 bt ct, 0) := by
  obtain ⟨h1, h2, h3, h4, h5, h6⟩ := E0_on
  unfold writeD
  rw [callD_on (d := E2 bt) h2 h3]
  simp only [there2 (d := E2 bt) h1 1 (by decide) (by decide)]
  rw [if_neg (by simp), if_neg (by simp), if_neg (by omega)]
  rfl
theorem E3_bytes (bt ct : List Int) : bytesD (E3 bt ct) 0 = pad bt := by
  obtain ⟨h1, h2, h3, h4, h5, h6⟩ := E0_on
  have hn : (E3 bt ct).n = 2 := h1
  unfold bytesD
  rw [if_neg (by rw [hn]; omega)]
  rfl
theorem pad_len2 (bt : List Int) (h : bt.length ≤ 512) : (pad bt).length = 512 := by unfold pad; rw [List.length_append, List.length_replicate]; omega
theorem R_ok {w : World} {base : Nat} {ok ok' : Nat → Prop} {v : Value} {xs : List Int} (h : Kd.R (Kd.int .u8) 5 w base ok v xs) (h' : ∀ k, v.ownBlock = some k → ok' k) : Kd.R (Kd.int .u8) 5 w base ok' v xs := Kd.R_of_own (Kd.own_of_R h) h'
theorem row_head {w : World} {base : Nat} {ok : Nat → Prop} {A : Option Addr} {n c : Nat} {xs : List Int} (h : Kd.R (Kd.int .u8) 5 w base ok (.slice A n c) xs) (hp : 0 < xs.length) : ∃ g, A = some ⟨g, 0, none⟩ ∧ n = xs.length ∧ base ≤ g ∧ ∃ cs, w.heap[g]? = some (.cells cs 5 (0, 0)) := by
  obtain ⟨g, cap, he, hb, _, hc⟩ := Kd.R_form h hp
  injection he with h1 h2 h3
  exact ⟨g, h1, h2, hb, hc⟩
theorem C_keepD {W W' : World} {b0 : Nat} {A : Option Addr} {n c : Nat} {xs : List Int} (h : Kd.R (Kd.int .u8) 5 W b0 (fun _ => True) (.slice A n c) xs) (hk : KeepD W W') : Kd.C (Kd.int .u8) W' A n xs := by
  obtain ⟨A', c', he, _, hC⟩ := Kd.R_reads (R_keepD h hk)
  injection he with h1 h2 h3
  subst h1
  rw [h2]
  exact hC
/-- A store into a row of bytes, seen by all else. -/
theorem put_row {w W : World} {base g j : Nat} {d : D} {gd : Nat} {x : Value} (hD : IsD base W gd d) (hB : Below base w W) (hg : base ≤ g) (hc : ∃ cs, W.heap[g]? = some (.cells cs 5 (0, 0))) : IsD base (W.setCell ⟨g, j, none⟩ x) gd d ∧ Below base w (W.setCell ⟨g, j, none⟩ x) := by
  have hgr : W.grownBy (W.setCell ⟨g, j, none⟩ x) (some g) := ⟨rfl, rfl, rfl, by simp [World.setCell], fun i _ hi => Below.heap_setCell _ _ _ _ (fun e => hi (by rw [e]))⟩
  exact ⟨hD.grown5 hgr (fun k e => by cases e; exact hc), hB.setCell hg _⟩
theorem row_put {W : World} {base g n c : Nat} {xs : List Int} (h : Kd.R (Kd.int .u8) 5 W base (fun _ => True) (.slice (some ⟨g, 0, none⟩) n c) xs) (hn : xs.length = n) (k : Nat) (x : Int) : Kd.R (Kd.int .u8) 5 (W.setCell ⟨g, k, none⟩ (.int .u8 x)) base (fun _ => True) (.slice (some ⟨g, 0, none⟩) n c) (xs.set k x) := by
  subst hn
  exact (Kd.R_put h (k : Int) x).1
theorem row_cell {W : World} {base g n c : Nat} {xs : List Int} (h : Kd.R (Kd.int .u8) 5 W base (fun _ => True) (.slice (some ⟨g, 0, none⟩) n c) xs) (hn : xs.length = n) (k : Nat) (hk : k < n) : (∃ x, W.cell? ⟨g, k, none⟩ = some (.int .u8 x)) ∧ W.frozen? ⟨g, k, none⟩ = false := by
  subst hn
  have := Kd.R_cell (0 : Int) h (k : Int) (by omega) (by omega)
  exact ⟨⟨_, this.1⟩, this.2⟩
theorem row_far {W : World} {base g j : Nat} {v u : Value} {xs : List Int} (h : Kd.R (Kd.int .u8) 5 W base (fun _ => True) v xs) (hne : ∀ k, v.ownBlock = some k → k ≠ g) : Kd.R (Kd.int .u8) 5 (W.setCell ⟨g, j, none⟩ u) base (fun _ => True) v xs :=
  Kd.R_mono (Kd.R_far (R_ok h hne) (fun k hk => hk) u) (fun _ _ => trivial)
set_option maxHeartbeats 8000000 in
set_option maxRecDepth 100000 in
theorem apart_calls (w : World) (A1 A2 : Option Addr) (c1 c2 : Nat) (b c : List Int) (h1 : Kd.C (Kd.int .u8) w A1 b.length b) (h2 : Kd.C (Kd.int .u8) w A2 c.length c) (k1 : b.length ≤ c1) (k2 : c.length ≤ c2) (o1 : OkB b) (o2 : OkB c) :
    Calls Try.prog 5 #[.slice A1 b.length c1, .slice A2 c.length c2] w fun e w' => e = .returned (.bool true) ∧ Below w.heap.size w w' := by
  have H1 := Aside0.mk h1
  have H2 := Aside0.mk h2
  have K1 := Aside0.mk k1
  have K2 := Aside0.mk k2
  have O1 := Aside0.mk (okb_take o1 512)
  have O2 := Aside0.mk (okb_take o2 512)
  clear h1 h2 k1 k2 o1 o2
  have info5 : (Try.prog.info? 5).map (fun i => (i.zero, i.size, i.bytes)) = some (some (.int .u8 0), 1, 1) := by kernel_rfl
  have INF := Aside0.mk info5
  clear info5
  obtain ⟨bt, hbt⟩ : ∃ bt, bt = b.take 512 := ⟨_, rfl⟩
  have HBT := Aside0.mk hbt
  have HTL := Aside0.mk (show bt.length ≤ 512 by rw [hbt, List.length_take]; omega)
  clear hbt
  rw [← HBT.out] at O1
  obtain ⟨pb, hpb⟩ : ∃ pb, pb = pad bt := ⟨_, rfl⟩
  have HPB := Aside0.mk hpb
  have HPL := Aside0.mk (show pb.length = 512 by rw [hpb]; exact pad_len2 bt HTL.out)
  obtain ⟨ct, hct⟩ : ∃ ct, ct = c.take 512 := ⟨_, rfl⟩
  have HCT := Aside0.mk hct
  have HCL := Aside0.mk (show ct.length ≤ 512 by rw [hct, List.length_take]; omega)
  rw [← hct] at O2
  clear hct
  have E1R := Aside0.mk (show readD (E1 bt) 0 = (E1 bt, pb, 0) by rw [hpb]; exact E1_read bt)
  have E2B := Aside0.mk (show bytesD (E2 bt) 0 = pb by rw [hpb]; exact E2_bytes bt)
  clear hpb
  have p512 : ((pb.length : Nat) : Int) = 512 := by rw [HPL.out]; rfl
  obtain ⟨n1, hn1⟩ : ∃ n1, n1 = bt.length := ⟨_, rfl⟩
  have HN1 := Aside0.mk hn1
  have hn512 : n1 ≤ 512 := by rw [hn1]; exact HTL.out
  clear hn1
  go_enter Try.func5, Try.ntmps5
  go_upto_block 0 with (first
    | (go_at_call 8; refine (new_calls 2 w).mono ?_; rintro e w1 ⟨g, rfl, h1, h2, h3⟩; rw [E0q] at h1; have HD := Aside0.mk h1; have HB := Aside0.mk h3; clear h1 h2 h3)
    | (go_at_call 10; refine (short_calls A1 c1 b _ (Kd.C_below H1.out HB.out) K1.out).mono ?_; rw [← HBT.out]; rintro e w2 ⟨v2, rfl, h4, h5⟩; obtain ⟨A3, c3, rfl⟩ := Kd.R_slice h4; have HR2 := Aside0.mk (Kd.R_lower h4 HB.out.size); have HD2 := Aside0.mk (HD.out.below h5); have HB2 := Aside0.mk (HB.out.trans (h5.mono HB.out.size)); clear h4 h5 HD HB)
    | (go_at_call 9; refine (write_yes w.heap.size g E0 0 A3 c3 bt w _ HD2.out HB2.out (lies_of_R HR2.out) O1.out (by rw [E1_write bt HTL.out]) (by rw [E0_on.2.2.2.1]; decide) (Nat.le_refl _)).mono ?_; rintro e w3 ⟨rfl, h1, h2, h3⟩; rw [E1_write bt HTL.out] at h1; have HD := Aside0.mk h1; have HB := Aside0.mk h2; have HR := Aside0.mk (R_keepD HR2.out h3); clear h1 h2 h3 HD2 HB2 HR2))
  rw [← HN1.out] at HR ⊢
  go_wp2_with fail
  go_loopw [7] (fun x wr => ∃ (k : Nat) (xs : List Int), k ≤ n1 ∧ xs.length = n1 ∧ x = .int .i64 k ∧ Aside0 (Kd.R (Kd.int .u8) 5 wr w.heap.size (fun _ => True) (.slice A3 n1 c3) xs) ∧ Aside0 (IsD w.heap.size wr g (E1 bt)) ∧ Aside0 (Below w.heap.size w wr)) (fun x _ => n1 - (intOf x).toNat)
  case atStart => exact ⟨0, bt, Nat.zero_le _, HN1.out.symm, rfl, HR, HD, HB⟩
  case round =>
    obtain ⟨k, xs, hk, hxs, rfl, HRk, HDk, HBk⟩ := hrel
    by_cases hlt : k < n1
    · have e1 : decide ((k : Int) < n1) = true := decide_eq_true (by omega)
      obtain ⟨gx, hA, -, hgx, hcx⟩ := row_head HRk.out (by omega)
      subst hA
      obtain ⟨⟨x, cx⟩, fx⟩ := row_cell HRk.out hxs k hlt
      have HCX := Aside0.mk hcx
      clear hcx
      go_wp2
      go_roundw
      case rel =>
        obtain ⟨p1, p2⟩ := put_row (j := k) (x := .int .u8 (IntKind.u8.wrap (x + 1))) HDk.out HBk.out hgx HCX.out
        exact ⟨k + 1, xs.set k (IntKind.u8.wrap (x + 1)), by omega, by rw [List.length_set]; exact hxs, by go_num, ⟨row_put HRk.out hxs k _⟩, ⟨p1⟩, ⟨p2⟩⟩
      case measure => simp [intOf]; omega
    · have e1 : decide ((k : Int) < n1) = false := decide_eq_false (by omega)
      clear HR HD HB
      go_upto_block 2 with (first
        | (go_at_call 15; refine (read_calls w.heap.size g (E1 bt) 0 ⟨by decide, by decide⟩ w _ HDk.out HBk.out (by show 1 ≤ 1000000; decide)).mono ?_; rw [E1R.out]; rintro e w8 ⟨v8, rfl, h1, h2, h3, h4⟩; obtain ⟨A8, c8, rfl⟩ := Kd.R_slice h4; have HD8 := Aside0.mk h1; have HB8 := Aside0.mk h2; have HY8 := Aside0.mk (Kd.R_lower h4 HBk.out.size); clear h1 h2 h3 h4)
        | ((with_reducible refine gate_dst (N := 49) rfl ?_); refine Kd.R_lit (Kd.int .u8) w8.heap.size 5 ?hg (N := 49) ?hd (xs := ([] : List Int)) (inner := []) (ok := fun _ => True) (okp := fun _ => True) ?hr ?hp (fun _ hk => hk) trivial (Below.refl _ _) (Nat.le_refl _) (by simp) ?_; (case hd => rfl); (case hg => rfl); (case hr => first | (go_simp; done) | (go_simp; rfl)); (case hp => exact (Reps.none _ _)); intro v9 w9 ho4 hb hg_ hnew_; clear hg_ hnew_; have HO := Aside0.mk ho4; have HB9 := Aside0.mk hb; clear hb ho4)
        | ((with_reducible refine gate_dst (N := 51) rfl ?_); at_builtin; refine Kd.R_append_rows (Kd.int .u8) (w0 := w8) w8.heap.size rfl (.tmp 49) (.tmp 50) 28 5 (.int .u8 0) 1 rfl Try.underlying28 INF.out rfl (by decide) (by omega) v9 [] pb _ _ _ (fun _ => True) (fun _ => False) rfl rfl ?aO ?aR (fun _ _ h => h) (fun _ h => h.elim) ?aF ?aB ?aS ?aL ?_; (case aR => exact C_keepD HY8.out (KeepD.of_below HB9.out)); (case aB => exact HB9.out); (case aF => exact (fun _ _ => trivial)); (case aO => exact HO.out); (case aS => exact HB9.out.size); (case aL => have := HPL.out; simp; omega); intro v5 w10 ho hb hg hat; rw [List.nil_append] at ho; obtain ⟨AZ, cZ, rfl⟩ := Kd.R_slice ho; have HZ := Aside0.mk ho; have HB10 := Aside0.mk hb; clear ho hb hg hat))
      have HYL := Aside0.mk (Kd.R_lt HY8.out)
      have HBS := Aside0.mk (Nat.le_refl w.heap.size)
      have HY := Aside0.mk (Kd.R_below HY8.out HB10.out)
      have HDz := Aside0.mk (HD8.out.below HB10.out)
      have HBz := Aside0.mk (HB8.out.trans (HB10.out.mono HB8.out.size))
      clear HDk HBk HRk e1 hlt hk hxs xs HO HB9
      go_wp2_with fail
      go_loopw [11] (fun x wr => ∃ (k : Nat) (xs : List Int), k ≤ 512 ∧ xs.length = pb.length ∧ x = .int .i64 k ∧ Aside0 (Kd.R (Kd.int .u8) 5 wr w.heap.size (fun _ => True) (.slice A8 pb.length c8) xs) ∧ Aside0 (Kd.R (Kd.int .u8) 5 wr w8.heap.size (fun _ => True) (.slice AZ pb.length cZ) pb) ∧ Aside0 (IsD w.heap.size wr g (E1 bt)) ∧ Aside0 (Below w.heap.size w wr)) (fun x _ => 512 - (intOf x).toNat)
      case atStart => exact ⟨0, pb, Nat.zero_le _, rfl, rfl, HY, HZ, HDz, HBz⟩
      case round =>
        obtain ⟨k, xs, hk, hxs, rfl, HRk, HZk, HDk, HBk⟩ := hrel
        by_cases hlt : k < 512
        · have e1 : decide ((k : Int) < 512) = true := decide_eq_true (by omega)
          have hkp : (k : Int) < 512 ∧ k < pb.length := by have := HPL.out; omega
          obtain ⟨gx, hA, -, hgx, hcx⟩ := row_head HRk.out (by have := HPL.out; omega)
          subst hA
          obtain ⟨⟨x, cx⟩, fx⟩ := row_cell HRk.out hxs k hkp.2
          have HCX := Aside0.mk hcx
          clear hcx
          go_wp2
          go_roundw
          case rel =>
            obtain ⟨p1, p2⟩ := put_row (j := k) (x := .int .u8 (IntKind.u8.wrap (x + 1))) HDk.out HBk.out (by have := HBS.out; omega) HCX.out
            exact ⟨k + 1, xs.set k (IntKind.u8.wrap (x + 1)), by omega, by rw [List.length_set]; exact hxs, by go_num, ⟨row_put HRk.out hxs k _⟩, ⟨row_far HZk.out (fun q hq e => by have h1 := Kd.R_base HZk.out q hq; have h2 := HYL.out gx rfl; omega)⟩, ⟨p1⟩, ⟨p2⟩⟩
          case measure => simp [intOf]; omega
        · have e1 : decide ((k : Int) < 512) = false := decide_eq_false (by omega)
          clear HY HZ HDz HBz
          go_upto_region 20 with (first
            | (go_at_call 15; refine (read_calls w.heap.size g (E1 bt) 0 ⟨by decide, by decide⟩ w _ HDk.out HBk.out (by show 1 ≤ 1000000; decide)).mono ?_; rw [E1R.out]; rintro e wq ⟨v11, rfl, h1, h2, h3, h4⟩; obtain ⟨AU, cU, rfl⟩ := Kd.R_slice h4; have HDq := Aside0.mk h1; have HBq := Aside0.mk h2; have HUq := Aside0.mk h4; have HZq := Aside0.mk (R_keepD HZk.out h3); clear h1 h2 h3 h4))
          have I512 : IntKind.i64.wrap (512 - (bt.length : Int)) = 512 - (bt.length : Int) := by have := HTL.out; rw [IntKind.wrap_i64]; omega
          clear HDk HBk HRk HZk e1 hlt hk hxs xs
          refine start_ (n := 27) (S := fun w' => KeepD wq w') (ds := []) #[false, false, false, false, false, false, false, false, false, false, false, false, false, false, false, false, false, false, false, false, false, false, false, false, false, false, false] (by kernel_rfl) rfl rfl (KeepD.of_below (below_drew (Below.refl _ _))) (fun hHeld => ?_)
          refine pure_ (i := 0) (N := some 69) (v := ?_) (a' := ?_) #[true, false, false, false, false, false, false, false, false, false, false, false, false, false, false, false, false, false, false, false, false, false, false, false, false, false, false] rfl rfl (by kernel_rfl) (fun _ _ _ h => h) (Or.inl ⟨by rfl, ?_⟩) ?_ ?_
          rotate_left
          · intro w'
            go_simp
            with_reducible rfl
          rotate_left
          · simp only [Act.put, List.setIfInBounds_toArray, List.set_cons_zero, List.set_cons_succ]
            rfl
          refine pure_ (i := 1) (N := some 70) (v := ?_) (a' := ?_) #[true, true, false, false, false, false, false, false, false, false, false, false, false, false, false, false, false, false, false, false, false, false, false, false, false, false, false] rfl rfl (by kernel_rfl) (fun _ _ _ h => h) (Or.inl ⟨by rfl, ?_⟩) ?_ ?_
          rotate_left
          · intro w'
            go_simp
            with_reducible rfl
          rotate_left
          · simp only [Act.put, List.setIfInBounds_toArray, List.set_cons_zero, List.set_cons_succ]
            rfl
          refine pure_ (i := 2) (N := some 71) (v := ?_) (a' := ?_) #[true, true, true, false, false, false, false, false, false, false, false, false, false, false, false, false, false, false, false, false, false, false, false, false, false, false, false] rfl rfl (by kernel_rfl) (fun _ _ _ h => h) (Or.inl ⟨by rfl, ?_⟩) ?_ ?_
          rotate_left
          · intro w'
            go_simp
            with_reducible rfl
          rotate_left
          · simp only [Act.put, List.setIfInBounds_toArray, List.set_cons_zero, List.set_cons_succ]
            rfl
          refine pure_ (i := 3) (N := some 72) (v := ?_) (a' := ?_) #[true, true, true, true, false, false, false, false, false, false, false, false, false, false, false, false, false, false, false, false, false, false, false, false, false, false, false] rfl rfl (by kernel_rfl) (fun _ _ _ h => h) (Or.inl ⟨by rfl, ?_⟩) ?_ ?_
          rotate_left
          · intro w'
            go_simp
            with_reducible rfl
          rotate_left
          · simp only [Act.put, List.setIfInBounds_toArray, List.set_cons_zero, List.set_cons_succ]
            rfl
          refine take_ (i := 4) (N := some 73) (v := .string (strOfNums pb)) (a' := ?_) #[true, true, true, true, true, false, false, false, false, false, false, false, false, false, false, false, false, false, false, false, false, false, false, false, false, false, false] rfl rfl (by kernel_rfl) (fun _ _ _ h => h) (Or.inl ⟨by rfl, ?_⟩) hHeld ?_ ?_
          · intro w' s0
            exact exec_conv (x := .tmp 72) rfl rfl (bytes_string (c := cU) (C_keepD HUq.out s0))
          rotate_left
          · simp only [Act.put, List.setIfInBounds_toArray, List.set_cons_zero, List.set_cons_succ]
            rfl
          refine pure_ (i := 5) (N := some 74) (v := ?_) (a' := ?_) #[true, true, true, true, true, true, false, false, false, false, false, false, false, false, false, false, false, false, false, false, false, false, false, false, false, false, false] rfl rfl (by kernel_rfl) (fun _ _ _ h => h) (Or.inl ⟨by rfl, ?_⟩) ?_ ?_
          rotate_left
          · intro w'
            go_simp
            with_reducible rfl
          rotate_left
          · simp only [Act.put, List.setIfInBounds_toArray, List.set_cons_zero, List.set_cons_succ]
            rfl
          refine take_ (i := 6) (N := some 75) (v := .string (strOfNums pb)) (a' := ?_) #[true, true, true, true, true, true, true, false, false, false, false, false, false, false, false, false, false, false, false, false, false, false, false, false, false, false, false] rfl rfl (by kernel_rfl) (fun _ _ _ h => h) (Or.inl ⟨by rfl, ?_⟩) hHeld ?_ ?_
          · intro w' s0
            exact exec_conv (x := .tmp 74) rfl rfl (bytes_string (c := cZ) (C_keepD HZq.out s0))
          rotate_left
          · simp only [Act.put, List.setIfInBounds_toArray, List.set_cons_zero, List.set_cons_succ]
            rfl
          refine pure_ (i := 7) (N := some 76) (v := .bool false) (a' := ?_) #[true, true, true, true, true, true, true, true, false, false, false, false, false, false, false, false, false, false, false, false, false, false, false, false, false, false, false] rfl rfl (by kernel_rfl) (fun _ _ _ h => h) (Or.inl ⟨by rfl, ?_⟩) ?_ ?_
          · intro w'
            go_simp
          rotate_left
          · simp only [Act.put, List.setIfInBounds_toArray, List.set_cons_zero, List.set_cons_succ]
            rfl
          refine pure_ (i := 8) (N := some 77) (v := ?_) (a' := ?_) #[true, true, true, true, true, true, true, true, true, false, false, false, false, false, false, false, false, false, false, false, false, false, false, false, false, false, false] rfl rfl (by kernel_rfl) (fun _ _ _ h => h) (Or.inl ⟨by rfl, ?_⟩) ?_ ?_
          rotate_left
          · intro w'
            go_simp
            with_reducible rfl
          rotate_left
          · simp only [Act.put, List.setIfInBounds_toArray, List.set_cons_zero, List.set_cons_succ]
            rfl
          refine pure_ (i := 9) (N := some 78) (v := ?_) (a' := ?_) #[true, true, true, true, true, true, true, true, true, true, false, false, false, false, false, false, false, false, false, false, false, false, false, false, false, false, false] rfl rfl (by kernel_rfl) (fun _ _ _ h => h) (Or.inl ⟨by rfl, ?_⟩) ?_ ?_
          rotate_left
          · intro w'
            go_simp
            with_reducible rfl
          rotate_left
          · simp only [Act.put, List.setIfInBounds_toArray, List.set_cons_zero, List.set_cons_succ]
            rfl
          refine pure_ (i := 10) (N := some 79) (v := ?_) (a' := ?_) #[true, true, true, true, true, true, true, true, true, true, true, false, false, false, false, false, false, false, false, false, false, false, false, false, false, false, false] rfl rfl (by kernel_rfl) (fun _ _ _ h => h) (Or.inl ⟨by rfl, ?_⟩) ?_ ?_
          rotate_left
          · intro w'
            go_simp
            with_reducible rfl
          rotate_left
          · simp only [Act.put, List.setIfInBounds_toArray, List.set_cons_zero, List.set_cons_succ]
            rfl
          refine take_ (i := 11) (N := some 80) (v := .string (strOfNums pb)) (a' := ?_) #[true, true, true, true, true, true, true, true, true, true, true, true, false, false, false, false, false, false, false, false, false, false, false, false, false, false, false] rfl rfl (by kernel_rfl) (fun _ _ _ h => h) (Or.inl ⟨by rfl, ?_⟩) hHeld ?_ ?_
          · intro w' s0
            exact exec_conv (x := .tmp 79) rfl rfl (bytes_string (c := cZ) (C_keepD HZq.out s0))
          rotate_left
          · simp only [Act.put, List.setIfInBounds_toArray, List.set_cons_zero, List.set_cons_succ]
            rfl
          refine pure_ (i := 12) (N := some 81) (v := ?_) (a' := ?_) #[true, true, true, true, true, true, true, true, true, true, true, true, true, false, false, false, false, false, false, false, false, false, false, false, false, false, false] rfl rfl (by kernel_rfl) (fun _ _ _ h => h) (Or.inl ⟨by rfl, ?_⟩) ?_ ?_
          rotate_left
          · intro w'
            go_simp
            with_reducible rfl
          rotate_left
          · simp only [Act.put, List.setIfInBounds_toArray, List.set_cons_zero, List.set_cons_succ]
            rfl
          refine pure_ (i := 14) (N := some 83) (v := ?_) (a' := ?_) #[true, true, true, true, true, true, true, true, true, true, true, true, true, false, true, false, false, false, false, false, false, false, false, false, false, false, false] rfl rfl (by kernel_rfl) (fun _ _ _ h => h) (Or.inl ⟨by rfl, ?_⟩) ?_ ?_
          rotate_left
          · intro w'
            go_simp
            with_reducible rfl
          rotate_left
          · simp only [Act.put, List.setIfInBounds_toArray, List.set_cons_zero, List.set_cons_succ]
            rfl
          refine one_ (i := 13) (N := some 82) #[true, true, true, true, true, true, true, true, true, true, true, true, true, true, true, false, false, false, false, false, false, false, false, false, false, false, false] rfl rfl (by kernel_rfl) (by decide) (fun K hK => ?_)
          refine goes_ Try.func10 (by kernel_rfl) rfl #[.slice A1 b.length c1] (by rfl) rfl rfl (by (try simp only [List.map_toArray, List.map_cons, List.map_nil]); first | done | rfl) ?_
          refine (short_calls A1 c1 b _ (Kd.C_below H1.out (below_drew HBq.out)) K1.out).mono ?_
          rw [← HBT.out]
          rintro e w14 ⟨v14, rfl, h4, h5⟩
          refine ⟨v14, rfl, ?_⟩
          obtain ⟨A14, c14, rfl⟩ := Kd.R_slice h4
          have hB14 : Below wq.heap.size wq w14 := (below_drew (Below.refl _ _)).trans h5
          have HR14 := Aside0.mk (show Kd.R (Kd.int .u8) 5 w14 wq.heap.size (fun _ => True) (.slice A14 bt.length c14) bt from h4)
          have HB14 := Aside0.mk hB14
          clear h4 h5
          refine hK.out _ _ (KeepD.of_below hB14) (fun hHeld => ?_)
          clear hK K hB14
          refine one_ (i := 15) (N := some 84) #[true, true, true, true, true, true, true, true, true, true, true, true, true, true, true, true, false, false, false, false, false, false, false, false, false, false, false] rfl rfl (by kernel_rfl) (by decide) (fun K hK => ?_)
          refine goes_ Try.func10 (by kernel_rfl) rfl #[.slice A1 b.length c1] (by rfl) rfl rfl (by (try simp only [List.map_toArray, List.map_cons, List.map_nil]); first | done | rfl) ?_
          refine (short_calls A1 c1 b _ (Kd.C_below H1.out (HBq.out.trans (HB14.out.mono HBq.out.size))) K1.out).mono ?_
          rw [← HBT.out]
          rintro e w15 ⟨v15, rfl, h4, h5⟩
          refine ⟨v15, rfl, ?_⟩
          obtain ⟨A15, c15, rfl⟩ := Kd.R_slice h4
          have hB15 : Below wq.heap.size wq w15 := HB14.out.trans (h5.mono HB14.out.size)
          have HR15 := Aside0.mk (Kd.R_below HR14.out h5)
          have HB15 := Aside0.mk hB15
          clear h4 h5
          refine hK.out _ _ (KeepD.of_below hB15) (fun hHeld => ?_)
          clear hK K hB15
          refine pure_ (i := 16) (N := some 85) (v := ?_) (a' := ?_) #[true, true, true, true, true, true, true, true, true, true, true, true, true, true, true, true, true, false, false, false, false, false, false, false, false, false, false] rfl rfl (by kernel_rfl) (fun _ _ _ h => h) (Or.inl ⟨by rfl, ?_⟩) ?_ ?_
          rotate_left
          · intro w'
            go_simp
            with_reducible rfl
          rotate_left
          · simp only [Act.put, List.setIfInBounds_toArray, List.set_cons_zero, List.set_cons_succ]
            rfl
          refine pure_ (i := 17) (N := some 86) (v := .int .i64 (512 - (bt.length : Int))) (a' := ?_) #[true, true, true, true, true, true, true, true, true, true, true, true, true, true, true, true, true, true, false, false, false, false, false, false, false, false, false] rfl rfl (by kernel_rfl) (fun _ _ _ h => h) (Or.inl ⟨by rfl, ?_⟩) ?_ ?_
          · intro w'
            go_simp
          rotate_left
          · simp only [Act.put, List.setIfInBounds_toArray, List.set_cons_zero, List.set_cons_succ]
            rfl
          refine one_ (i := 18) (N := some 87) #[true, true, true, true, true, true, true, true, true, true, true, true, true, true, true, true, true, true, true, false, false, false, false, false, false, false, false] rfl rfl (by kernel_rfl) (by decide) (fun K hK => ?_)
          refine Kd.R_append_zeros_step (Kd.int .u8) (w0 := wq) wq.heap.size (by rfl) (.tmp 82) (.tmp 86) 28 3 5 (.int .u8 0) 1 rfl Try.underlying28 Try.underlying3 INF.out rfl (by decide) (by decide) (.slice A14 bt.length c14) bt 0 (kx := .i64) (512 - (bt.length : Int)) (fun _ => True) rfl rfl ?aZ (fun _ _ => trivial) HR15.out (by have := HTL.out; omega) HB15.out HB15.out.size ?aL ?_
          case aZ => rfl
          case aL => have := HTL.out; omega
          intro v16 w16 ho hb hg hat
          obtain ⟨A16, c16, rfl, _, hC16⟩ := Kd.R_reads ho
          have hcv := pad_raw (nb := bt.length) (c := c16) rfl hC16
          rw [← HPB.out] at hcv
          have HB16 := Aside0.mk hb
          show K (Act.put _ (some 87) _) _
          simp only [Act.put, List.setIfInBounds_toArray, List.set_cons_zero, List.set_cons_succ]
          refine hK.out _ _ (KeepD.of_below hb) (fun hHeld => ?_)
          clear hK K ho hb hg hat hC16
          refine one_ (i := 19) (N := some 88) #[true, true, true, true, true, true, true, true, true, true, true, true, true, true, true, true, true, true, true, true, false, false, false, false, false, false, false] rfl rfl (by kernel_rfl) (by decide) (fun K hK => ?_)
          refine value_ (by rfl) rfl (exec_conv (x := .tmp 87) rfl rfl hcv) ?_
          refine hK.out _ _ hHeld (fun hHeld => ?_)
          clear hK K
          refine pure_ (i := 20) (N := some 89) (v := .bool false) (a' := ?_) #[true, true, true, true, true, true, true, true, true, true, true, true, true, true, true, true, true, true, true, true, true, false, false, false, false, false, false] rfl rfl (by kernel_rfl) (fun _ _ _ h => h) (Or.inl ⟨by rfl, ?_⟩) ?_ ?_
          · intro w'
            go_simp
          rotate_left
          · simp only [Act.put, List.setIfInBounds_toArray, List.set_cons_zero, List.set_cons_succ]
            rfl
          refine pure_ (i := 21) (N := some 90) (v := ?_) (a' := ?_) #[true, true, true, true, true, true, true, true, true, true, true, true, true, true, true, true, true, true, true, true, true, true, false, false, false, false, false] rfl rfl (by kernel_rfl) (fun _ _ _ h => h) (Or.inl ⟨by rfl, ?_⟩) ?_ ?_
          rotate_left
          · intro w'
            go_simp
            with_reducible rfl
          rotate_left
          · simp only [Act.put, List.setIfInBounds_toArray, List.set_cons_zero, List.set_cons_succ]
            rfl
          refine pure_ (i := 22) (N := some 91) (v := ?_) (a' := ?_) #[true, true, true, true, true, true, true, true, true, true, true, true, true, true, true, true, true, true, true, true, true, true, true, false, false, false, false] rfl rfl (by kernel_rfl) (fun _ _ _ h => h) (Or.inl ⟨by rfl, ?_⟩) ?_ ?_
          rotate_left
          · intro w'
            go_simp
            with_reducible rfl
          rotate_left
          · simp only [Act.put, List.setIfInBounds_toArray, List.set_cons_zero, List.set_cons_succ]
            rfl
          refine pure_ (i := 23) (N := some 92) (v := ?_) (a' := ?_) #[true, true, true, true, true, true, true, true, true, true, true, true, true, true, true, true, true, true, true, true, true, true, true, true, false, false, false] rfl rfl (by kernel_rfl) (fun _ _ _ h => h) (Or.inl ⟨by rfl, ?_⟩) ?_ ?_
          rotate_left
          · intro w'
            go_simp
            with_reducible rfl
          rotate_left
          · simp only [Act.put, List.setIfInBounds_toArray, List.set_cons_zero, List.set_cons_succ]
            rfl
          refine one_ (i := 24) (N := some 93) #[true, true, true, true, true, true, true, true, true, true, true, true, true, true, true, true, true, true, true, true, true, true, true, true, true, false, false] rfl rfl (by kernel_rfl) (by decide) (fun K hK => ?_)
          refine goes_ Try.func11 (by kernel_rfl) rfl #[.pointer (some ⟨g, 0, none⟩)] (by rfl) rfl rfl (by (try simp only [List.map_toArray, List.map_cons, List.map_nil]); first | done | rfl) ?_
          refine (flush_calls w.heap.size g (E1 bt) w _ (HDq.out.below HB16.out) (HBq.out.trans (HB16.out.mono HBq.out.size)) (Nat.le_refl _) (by show 1 < 1000000; decide)).mono ?_
          rw [E2_flush]
          rintro e w17 ⟨rfl, h1, h2, h3⟩
          refine ⟨_, rfl, ?_⟩
          have hk17 : KeepD wq w17 := (KeepD.of_below HB16.out).trans h3
          have HD17 := Aside0.mk h1
          have HB17 := Aside0.mk h2
          have HZ17 := Aside0.mk (R_keepD HZq.out hk17)
          refine hK.out _ _ hk17 (fun hHeld => ?_)
          clear hK K hk17 h1 h2 h3
          refine pure_ (i := 25) (N := some 94) (v := ?_) (a' := ?_) #[true, true, true, true, true, true, true, true, true, true, true, true, true, true, true, true, true, true, true, true, true, true, true, true, true, true, false] rfl rfl (by kernel_rfl) (fun _ _ _ h => h) (Or.inl ⟨by rfl, ?_⟩) ?_ ?_
          rotate_left
          · intro w'
            go_simp
            with_reducible rfl
          rotate_left
          · simp only [Act.put, List.setIfInBounds_toArray, List.set_cons_zero, List.set_cons_succ]
            rfl
          refine pure_ (i := 26) (N := some 95) (v := ?_) (a' := ?_) #[true, true, true, true, true, true, true, true, true, true, true, true, true, true, true, true, true, true, true, true, true, true, true, true, true, true, true] rfl rfl (by kernel_rfl) (fun _ _ _ h => h) (Or.inl ⟨by rfl, ?_⟩) ?_ ?_
          rotate_left
          · intro w'
            go_simp
            with_reducible rfl
          rotate_left
          · simp only [Act.put, List.setIfInBounds_toArray, List.set_cons_zero, List.set_cons_succ]
            rfl
          refine done_ (by kernel_rfl) ?_
          clear I512
          go_upto_block 4 with (first
            | (go_at_call 12; refine (bytes_calls w.heap.size g (E2 bt) 0 ⟨by decide, by decide⟩ _ HD17.out).mono ?_; rw [E2B.out]; rintro e w18 ⟨v18, rfl, h4, h5⟩; obtain ⟨A18, c18, rfl⟩ := Kd.R_slice h4; have HV18 := Aside0.mk h4; have HZL := Aside0.mk (Kd.R_lt HZ17.out); have HZ18 := Aside0.mk (Kd.R_below HZ17.out h5); have HD18 := Aside0.mk (HD17.out.below h5); have HB18 := Aside0.mk (HB17.out.trans (h5.mono HB17.out.size)); clear h4 h5))
          clear HBS
          have HBS := Aside0.mk HB17.out.size
          go_wp2_with fail
          go_loopw [15] (fun x wr => ∃ (k : Nat) (xs : List Int), k ≤ 512 ∧ xs.length = pb.length ∧ x = .int .i64 k ∧ Aside0 (Kd.R (Kd.int .u8) 5 wr w17.heap.size (fun _ => True) (.slice A18 pb.length c18) xs) ∧ Aside0 (Kd.R (Kd.int .u8) 5 wr w8.heap.size (fun _ => True) (.slice AZ pb.length cZ) pb) ∧ Aside0 (IsD w.heap.size wr g (E2 bt)) ∧ Aside0 (Below w.heap.size w wr)) (fun x _ => 512 - (intOf x).toNat)
          case atStart => exact ⟨0, pb, Nat.zero_le _, rfl, rfl, HV18, HZ18, HD18, HB18⟩
          case round =>
            obtain ⟨k, xs, hk, hxs, rfl, HRk, HZk, HDk, HBk⟩ := hrel
            by_cases hlt : k < 512
            · have e1 : decide ((k : Int) < 512) = true := decide_eq_true (by omega)
              have hkp : (k : Int) < 512 ∧ k < pb.length := by have := HPL.out; omega
              obtain ⟨gx, hA, -, hgx, hcx⟩ := row_head HRk.out (by have := HPL.out; omega)
              subst hA
              obtain ⟨⟨x, cx⟩, fx⟩ := row_cell HRk.out hxs k hkp.2
              have HCX := Aside0.mk hcx
              clear hcx
              go_wp2
              go_roundw
              case rel =>
                obtain ⟨p1, p2⟩ := put_row (j := k) (x := .int .u8 (IntKind.u8.wrap (x + 1))) HDk.out HBk.out (by have := HBS.out; omega) HCX.out
                exact ⟨k + 1, xs.set k (IntKind.u8.wrap (x + 1)), by omega, by rw [List.length_set]; exact hxs, by go_num, ⟨row_put HRk.out hxs k _⟩, ⟨row_far HZk.out (fun q hq e => by have h1 := HZL.out q hq; omega)⟩, ⟨p1⟩, ⟨p2⟩⟩
              case measure => simp [intOf]; omega
            · have e1 : decide ((k : Int) < 512) = false := decide_eq_false (by omega)
              clear HV18 HZ18 HD18 HB18
              go_upto_region 27 with fail
              refine start_ (n := 25) (S := fun w' => KeepD wr w') (ds := []) #[false, false, false, false, false, false, false, false, false, false, false, false, false, false, false, false, false, false, false, false, false, false, false, false, false] (by kernel_rfl) rfl rfl (KeepD.of_below (below_drew (Below.refl _ _))) (fun hHeld => ?_)
              refine pure_ (i := 0) (N := some 112) (v := ?_) (a' := ?_) #[true, false, false, false, false, false, false, false, false, false, false, false, false, false, false, false, false, false, false, false, false, false, false, false, false] rfl rfl (by kernel_rfl) (fun _ _ _ h => h) (Or.inl ⟨by rfl, ?_⟩) ?_ ?_
              rotate_left
              · intro w'
                go_simp
                with_reducible rfl
              rotate_left
              · simp only [Act.put, List.setIfInBounds_toArray, List.set_cons_zero, List.set_cons_succ]
                rfl
              refine pure_ (i := 3) (N := some 115) (v := ?_) (a' := ?_) #[true, false, false, true, false, false, false, false, false, false, false, false, false, false, false, false, false, false, false, false, false, false, false, false, false] rfl rfl (by kernel_rfl) (fun _ _ _ h => h) (Or.inl ⟨by rfl, ?_⟩) ?_ ?_
              rotate_left
              · intro w'
                go_simp
                with_reducible rfl
              rotate_left
              · simp only [Act.put, List.setIfInBounds_toArray, List.set_cons_zero, List.set_cons_succ]
                rfl
              refine take_ (i := 4) (N := some 116) (v := .string (strOfNums pb)) (a' := ?_) #[true, false, false, true, true, false, false, false, false, false, false, false, false, false, false, false, false, false, false, false, false, false, false, false, false] rfl rfl (by kernel_rfl) (fun _ _ _ h => h) (Or.inl ⟨by rfl, ?_⟩) hHeld ?_ ?_
              · intro w' s0
                exact exec_conv (x := .tmp 115) rfl rfl (bytes_string (c := cZ) (C_keepD HZk.out s0))
              rotate_left
              · simp only [Act.put, List.setIfInBounds_toArray, List.set_cons_zero, List.set_cons_succ]
                rfl
              refine one_ (i := 1) (N := some 113) #[true, true, false, true, true, false, false, false, false, false, false, false, false, false, false, false, false, false, false, false, false, false, false, false, false] rfl rfl (by kernel_rfl) (by decide) (fun K hK => ?_)
              refine goes_ Try.func12 (by kernel_rfl) rfl #[.pointer (some ⟨g, 0, none⟩), .int .i64 0] (by rfl) rfl rfl (by (try simp only [List.map_toArray, List.map_cons, List.map_nil]); first | done | rfl) ?_
              refine (bytes_calls w.heap.size g (E2 bt) 0 ⟨by decide, by decide⟩ _ (HDk.out.below (below_drew (Below.refl _ _)))).mono ?_
              rw [E2B.out]
              rintro e w21 ⟨v21, rfl, h4, h5⟩
              refine ⟨v21, rfl, ?_⟩
              obtain ⟨A21, c21, rfl, _, hC21⟩ := Kd.R_reads h4
              have hB21 : Below wr.heap.size wr w21 := (below_drew (Below.refl _ _)).trans h5
              have HB21 := Aside0.mk hB21
              have hcv := bytes_string (c := c21) hC21
              refine hK.out _ _ (KeepD.of_below hB21) (fun hHeld => ?_)
              clear hK K hB21 h4 h5 hC21
              refine one_ (i := 2) (N := some 114) #[true, true, true, true, true, false, false, false, false, false, false, false, false, false, false, false, false, false, false, false, false, false, false, false, false] rfl rfl (by kernel_rfl) (by decide) (fun K hK => ?_)
              refine value_ (by rfl) rfl (exec_conv (x := .tmp 113) rfl rfl hcv) ?_
              refine hK.out _ _ hHeld (fun hHeld => ?_)
              clear hK K
              refine pure_ (i := 5) (N := some 117) (v := .bool true) (a' := ?_) #[true, true, true, true, true, true, false, false, false, false, false, false, false, false, false, false, false, false, false, false, false, false, false, false, false] rfl rfl (by kernel_rfl) (fun _ _ _ h => h) (Or.inl ⟨by rfl, ?_⟩) ?_ ?_
              · intro w'
                go_simp
              rotate_left
              · simp only [Act.put, List.setIfInBounds_toArray, List.set_cons_zero, List.set_cons_succ]
                rfl
              refine pure_ (i := 6) (N := some 118) (v := ?_) (a' := ?_) #[true, true, true, true, true, true, true, false, false, false, false, false, false, false, false, false, false, false, false, false, false, false, false, false, false] rfl rfl (by kernel_rfl) (fun _ _ _ h => h) (Or.inl ⟨by rfl, ?_⟩) ?_ ?_
              rotate_left
              · intro w'
                go_simp
                with_reducible rfl
              rotate_left
              · simp only [Act.put, List.setIfInBounds_toArray, List.set_cons_zero, List.set_cons_succ]
                rfl
              refine pure_ (i := 7) (N := some 119) (v := ?_) (a' := ?_) #[true, true, true, true, true, true, true, true, false, false, false, false, false, false, false, false, false, false, false, false, false, false, false, false, false] rfl rfl (by kernel_rfl) (fun _ _ _ h => h) (Or.inl ⟨by rfl, ?_⟩) ?_ ?_
              rotate_left
              · intro w'
                go_simp
                with_reducible rfl
              rotate_left
              · simp only [Act.put, List.setIfInBounds_toArray, List.set_cons_zero, List.set_cons_succ]
                rfl
              refine pure_ (i := 8) (N := some 120) (v := ?_) (a' := ?_) #[true, true, true, true, true, true, true, true, true, false, false, false, false, false, false, false, false, false, false, false, false, false, false, false, false] rfl rfl (by kernel_rfl) (fun _ _ _ h => h) (Or.inl ⟨by rfl, ?_⟩) ?_ ?_
              rotate_left
              · intro w'
                go_simp
                with_reducible rfl
              rotate_left
              · simp only [Act.put, List.setIfInBounds_toArray, List.set_cons_zero, List.set_cons_succ]
                rfl
              refine one_ (i := 9) (N := some 121) #[true, true, true, true, true, true, true, true, true, true, false, false, false, false, false, false, false, false, false, false, false, false, false, false, false] rfl rfl (by kernel_rfl) (by decide) (fun K hK => ?_)
              refine goes_ Try.func10 (by kernel_rfl) rfl #[.slice A2 c.length c2] (by rfl) rfl rfl (by (try simp only [List.map_toArray, List.map_cons, List.map_nil]); first | done | rfl) ?_
              refine (short_calls A2 c2 c _ (Kd.C_below H2.out (HBk.out.trans (HB21.out.mono HBk.out.size))) K2.out).mono ?_
              rw [← HCT.out]
              rintro e w22 ⟨v22, rfl, h4, h5⟩
              refine ⟨v22, rfl, ?_⟩
              obtain ⟨A22, c22, rfl⟩ := Kd.R_slice h4
              have hB22 : Below wr.heap.size wr w22 := HB21.out.trans (h5.mono HB21.out.size)
              have HR22 := Aside0.mk h4
              have HB22 := Aside0.mk hB22
              clear h4 h5
              refine hK.out _ _ (KeepD.of_below hB22) (fun hHeld => ?_)
              clear hK K hB22
              refine one_ (i := 10) (N := some 122) #[true, true, true, true, true, true, true, true, true, true, true, false, false, false, false, false, false, false, false, false, false, false, false, false, false] rfl rfl (by kernel_rfl) (by decide) (fun K hK => ?_)
              refine goes_ Try.func9 (by kernel_rfl) rfl #[.pointer (some ⟨g, 0, none⟩), .int .i64 1, .slice A22 ct.length c22] (by rfl) rfl rfl (by (try simp only [List.map_toArray, List.map_cons, List.map_nil]); first | done | rfl) ?_
              refine (write_yes w.heap.size g (E2 bt) 1 A22 c22 ct w _ (HDk.out.below HB22.out) (HBk.out.trans (HB22.out.mono HBk.out.size)) (lies_of_R HR22.out) O2.out (by rw [E3_write bt ct HCL.out]) (by show 1 < 1000000; decide) (Nat.le_refl _)).mono ?_
              rw [E3_write bt ct HCL.out]
              rintro e w23 ⟨rfl, h1, h2, h3⟩
              refine ⟨_, rfl, ?_⟩
              have hk23 : KeepD wr w23 := (KeepD.of_below HB22.out).trans h3
              have HD23 := Aside0.mk h1
              have HB23 := Aside0.mk h2
              refine hK.out _ _ hk23 (fun hHeld => ?_)
              have HK23 := Aside0.mk hk23
              clear hK K hk23 h1 h2 h3
              refine pure_ (i := 11) (N := some 123) (v := ?_) (a' := ?_) #[true, true, true, true, true, true, true, true, true, true, true, true, false, false, false, false, false, false, false, false, false, false, false, false, false] rfl rfl (by kernel_rfl) (fun _ _ _ h => h) (Or.inl ⟨by rfl, ?_⟩) ?_ ?_
              rotate_left
              · intro w'
                go_simp
                with_reducible rfl
              rotate_left
              · simp only [Act.put, List.setIfInBounds_toArray, List.set_cons_zero, List.set_cons_succ]
                rfl
              refine pure_ (i := 12) (N := some 124) (v := ?_) (a' := ?_) #[true, true, true, true, true, true, true, true, true, true, true, true, true, false, false, false, false, false, false, false, false, false, false, false, false] rfl rfl (by kernel_rfl) (fun _ _ _ h => h) (Or.inl ⟨by rfl, ?_⟩) ?_ ?_
              rotate_left
              · intro w'
                go_simp
                with_reducible rfl
              rotate_left
              · simp only [Act.put, List.setIfInBounds_toArray, List.set_cons_zero, List.set_cons_succ]
                rfl
              refine pure_ (i := 13) (N := some 125) (v := ?_) (a' := ?_) #[true, true, true, true, true, true, true, true, true, true, true, true, true, true, false, false, false, false, false, false, false, false, false, false, false] rfl rfl (by kernel_rfl) (fun _ _ _ h => h) (Or.inl ⟨by rfl, ?_⟩) ?_ ?_
              rotate_left
              · intro w'
                go_simp
                with_reducible rfl
              rotate_left
              · simp only [Act.put, List.setIfInBounds_toArray, List.set_cons_zero, List.set_cons_succ]
                rfl
              refine pure_ (i := 14) (N := some 126) (v := ?_) (a' := ?_) #[true, true, true, true, true, true, true, true, true, true, true, true, true, true, true, false, false, false, false, false, false, false, false, false, false] rfl rfl (by kernel_rfl) (fun _ _ _ h => h) (Or.inl ⟨by rfl, ?_⟩) ?_ ?_
              rotate_left
              · intro w'
                go_simp
                with_reducible rfl
              rotate_left
              · simp only [Act.put, List.setIfInBounds_toArray, List.set_cons_zero, List.set_cons_succ]
                rfl
              refine pure_ (i := 17) (N := some 129) (v := ?_) (a' := ?_) #[true, true, true, true, true, true, true, true, true, true, true, true, true, true, true, false, false, true, false, false, false, false, false, false, false] rfl rfl (by kernel_rfl) (fun _ _ _ h => h) (Or.inl ⟨by rfl, ?_⟩) ?_ ?_
              rotate_left
              · intro w'
                go_simp
                with_reducible rfl
              rotate_left
              · simp only [Act.put, List.setIfInBounds_toArray, List.set_cons_zero, List.set_cons_succ]
                rfl
              refine take_ (i := 18) (N := some 130) (v := .string (strOfNums pb)) (a' := ?_) #[true, true, true, true, true, true, true, true, true, true, true, true, true, true, true, false, false, true, true, false, false, false, false, false, false] rfl rfl (by kernel_rfl) (fun _ _ _ h => h) (Or.inl ⟨by rfl, ?_⟩) hHeld ?_ ?_
              · intro w' s0
                exact exec_conv (x := .tmp 129) rfl rfl (bytes_string (c := cZ) (C_keepD HZk.out s0))
              rotate_left
              · simp only [Act.put, List.setIfInBounds_toArray, List.set_cons_zero, List.set_cons_succ]
                rfl
              refine one_ (i := 15) (N := some 127) #[true, true, true, true, true, true, true, true, true, true, true, true, true, true, true, true, false, true, true, false, false, false, false, false, false] rfl rfl (by kernel_rfl) (by decide) (fun K hK => ?_)
              refine goes_ Try.func12 (by kernel_rfl) rfl #[.pointer (some ⟨g, 0, none⟩), .int .i64 0] (by rfl) rfl rfl (by (try simp only [List.map_toArray, List.map_cons, List.map_nil]); first | done | rfl) ?_
              refine (bytes_calls w.heap.size g (E3 bt ct) 0 ⟨by decide, by decide⟩ _ HD23.out).mono ?_
              rw [E3_bytes, ← HPB.out]
              rintro e w24 ⟨v24, rfl, h4, h5⟩
              refine ⟨v24, rfl, ?_⟩
              obtain ⟨A24, c24, rfl, _, hC24⟩ := Kd.R_reads h4
              have HB24 := Aside0.mk (HB23.out.trans (h5.mono HB23.out.size))
              have hcv2 := bytes_string (c := c24) hC24
              refine hK.out _ _ (HK23.out.trans (KeepD.of_below h5)) (fun hHeld => ?_)
              clear hK K h4 h5 hC24
              refine one_ (i := 16) (N := some 128) #[true, true, true, true, true, true, true, true, true, true, true, true, true, true, true, true, true, true, true, false, false, false, false, false, false] rfl rfl (by kernel_rfl) (by decide) (fun K hK => ?_)
              refine value_ (by rfl) rfl (exec_conv (x := .tmp 127) rfl rfl hcv2) ?_
              refine hK.out _ _ hHeld (fun hHeld => ?_)
              clear hK K
              refine pure_ (i := 19) (N := some 131) (v := .bool true) (a' := ?_) #[true, true, true, true, true, true, true, true, true, true, true, true, true, true, true, true, true, true, true, true, false, false, false, false, false] rfl rfl (by kernel_rfl) (fun _ _ _ h => h) (Or.inl ⟨by rfl, ?_⟩) ?_ ?_
              · intro w'
                go_simp
              rotate_left
              · simp only [Act.put, List.setIfInBounds_toArray, List.set_cons_zero, List.set_cons_succ]
                rfl
              refine pure_ (i := 20) (N := some 132) (v := ?_) (a' := ?_) #[true, true, true, true, true, true, true, true, true, true, true, true, true, true, true, true, true, true, true, true, true, false, false, false, false] rfl rfl (by kernel_rfl) (fun _ _ _ h => h) (Or.inl ⟨by rfl, ?_⟩) ?_ ?_
              rotate_left
              · intro w'
                go_simp
                with_reducible rfl
              rotate_left
              · simp only [Act.put, List.setIfInBounds_toArray, List.set_cons_zero, List.set_cons_succ]
                rfl
              refine pure_ (i := 21) (N := some 133) (v := ?_) (a' := ?_) #[true, true, true, true, true, true, true, true, true, true, true, true, true, true, true, true, true, true, true, true, true, true, false, false, false] rfl rfl (by kernel_rfl) (fun _ _ _ h => h) (Or.inl ⟨by rfl, ?_⟩) ?_ ?_
              rotate_left
              · intro w'
                go_simp
                with_reducible rfl
              rotate_left
              · simp only [Act.put, List.setIfInBounds_toArray, List.set_cons_zero, List.set_cons_succ]
                rfl
              refine one_ (i := 22) (N := some 134) #[true, true, true, true, true, true, true, true, true, true, true, true, true, true, true, true, true, true, true, true, true, true, true, false, false] rfl rfl (by kernel_rfl) (by decide) (fun K hK => ?_)
              refine goes_ Try.func14 (by kernel_rfl) rfl #[] (by rfl) rfl rfl (by (try simp only [List.map_toArray, List.map_cons, List.map_nil]); first | done | rfl) ?_
              refine (lives_calls _).mono ?_
              rintro e w25 ⟨rfl, h5⟩
              refine ⟨_, rfl, ?_⟩
              have HB25 := Aside0.mk (HB24.out.trans (h5.mono HB24.out.size))
              refine hK.out _ _ (hHeld.trans (KeepD.of_below h5)) (fun hHeld => ?_)
              clear hK K h5
              refine pure_ (i := 23) (N := some 135) (v := ?_) (a' := ?_) #[true, true, true, true, true, true, true, true, true, true, true, true, true, true, true, true, true, true, true, true, true, true, true, true, false] rfl rfl (by kernel_rfl) (fun _ _ _ h => h) (Or.inl ⟨by rfl, ?_⟩) ?_ ?_
              rotate_left
              · intro w'
                go_simp
                with_reducible rfl
              rotate_left
              · simp only [Act.put, List.setIfInBounds_toArray, List.set_cons_zero, List.set_cons_succ]
                rfl
              refine pure_ (i := 24) (N := some 4) (v := ?_) (a' := ?_) #[true, true, true, true, true, true, true, true, true, true, true, true, true, true, true, true, true, true, true, true, true, true, true, true, true] rfl rfl (by kernel_rfl) (fun _ _ _ h => h) (Or.inl ⟨by rfl, ?_⟩) ?_ ?_
              rotate_left
              · intro w'
                go_simp
                with_reducible rfl
              rotate_left
              · simp only [Act.put, List.setIfInBounds_toArray, List.set_cons_zero, List.set_cons_succ]
                rfl
              refine done_ (by kernel_rfl) ?_
              go_wp2
              go_ret
              exact ⟨rfl, HB25.out⟩
end Go.Proofs.Ytnaegemldpfllaa.Dis
