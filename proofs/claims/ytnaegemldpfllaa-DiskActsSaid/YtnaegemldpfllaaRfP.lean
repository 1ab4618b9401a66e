/- The law DiskActs, walked by hand (written by mkacts.py). -/
import Derived.Test.YtnaegemldpfllaaRfO
namespace Go.Proofs.Ytnaegemldpfllaa.Dis
open Go.RowKit Go.Proofs.YtnaegemldpfllaaW.PrintWords Go.Proofs.YtnaegemldpfllaaW.PrintLast Go.Proofs.YtnaegemldpfllaaW.PrintMore Go.Maps
set_option linter.unusedVariables false
set_option linter.unusedSimpArgs false
theorem below_cell {w w' : World} {g j : Nat} {v : Value} (h : w.cell? ⟨g, j, none⟩ = some v) (hg : g < w.heap.size) (hb : Below w.heap.size w w') : w'.cell? ⟨g, j, none⟩ = some v := by
  rw [← h]
  simp only [World.cell?]
  rw [hb.block g hg]
/-- The cells of an act, in any world that goes on. -/
def ActAt (w : World) (ad : Addr) (k : Nat) (vs : List Value) : Prop := ∀ w', Below w.heap.size w w' → ∀ j v, vs[j]? = some v → w'.cell? (ad.add (k * 4 + j)) = some v
theorem add_add (a : Addr) (i j : Nat) : a.add (i + j) = (a.add i).add j := by
  by_cases hj : j = 0
  · subst hj; simp [Addr.add]
  · rw [add_off a i j hj]
    rw [show (a.add i).add j = (a.add i).add (0 + j) by rw [Nat.zero_add], add_off (a.add i) 0 j hj]
    simp [Addr.add]
theorem act_cells {w w' : World} {ad : Addr} {k : Nat} {vs : List Value} (h : ActAt w ad k vs) (hb : Below w.heap.size w w') : ∀ j v, vs[j]? = some v → w'.cell? ((ad.add (k * 4)).add j) = some v := fun j v hv => by rw [← add_add]; exact h w' hb j v hv
theorem act_cell1 {w w' : World} {ad : Addr} {k : Nat} {x y : Int} {v2 v3 : Value} (h : ActAt w ad k [.int .i64 x, .int .i64 y, v2, v3]) (hb : Below w.heap.size w w') : w'.cell? ⟨(ad.add (k * 4)).block, (ad.add (k * 4)).off + 1, none⟩ = some (.int .i64 y) := by
  rw [← add_off _ _ 1 (by decide)]
  exact h w' hb 1 _ rfl
theorem act_stays {w : World} {ad : Addr} {l : List Act_} {k L : Nat} {vs : List Value} (h : actK.C w (some ad) l.length l) (hk : k < L) (hL : L = l.length) (hc : ∀ j v, vs[j]? = some v → w.cell? (ad.add (k * 4 + j)) = some v) : ActAt w ad k vs := fun w' hb j v hv => by
  have h1 := hc j v hv
  have hlt : (ad.add (k * 4 + j)).block < w.heap.size := by
    rcases Nat.lt_or_ge (ad.add (k * 4 + j)).block w.heap.size with h' | h'
    · exact h'
    · simp [World.cell?, Array.getElem?_eq_none h'] at h1
  rw [← h1]
  simp only [World.cell?]
  rw [hb.block _ hlt]
set_option maxHeartbeats 16000000 in
set_option maxRecDepth 100000 in
theorem acts_le (w : World) (n : Int) (A1 A2 : Option Addr) (c1 c2 : Nat) (img : List Int) (l : List Act_) (h1 : Kd.C (Kd.int .u8) w A1 img.length img) (h2 : actK.C w A2 l.length l) (k1 : img.length ≤ c1) (o1 : OkB img) (b1 : img.length ≤ 140737488351232) (b2 : l.length ≤ 140737488351232) (o2 : ∀ a ∈ l, OkA a 140737488351232) (hc : img.length ≤ 5000) :
    Calls Try.prog 7 #[.int .i64 n, .slice A1 img.length c1, .slice A2 l.length c2] w fun e w' => e = .returned (.bool true) ∧ Below w.heap.size w w' := by
  have info5 : (Try.prog.info? 5).map (fun i => (i.zero, i.size, i.bytes)) = some (some (.int .u8 0), 1, 1) := by kernel_rfl
  have INF := Aside0.mk info5
  clear info5
  have H2 := Aside0.mk h2
  have O2 := Aside0.mk o2
  obtain ⟨L, hL⟩ : ∃ L, L = l.length := ⟨_, rfl⟩
  rw [← hL] at b2 ⊢
  have NL := Aside0.mk hL
  clear h2 o2 hL
  obtain ⟨m, hm⟩ : ∃ m, m = img.length := ⟨_, rfl⟩
  rw [← hm] at h1 k1 b1 hc ⊢
  have HC := Aside0.mk h1
  obtain ⟨im, him⟩ : ∃ im, im = img := ⟨_, rfl⟩
  rw [← him] at HC hm o1
  have HIM := Aside0.mk (And.intro hm (And.intro (show m ≤ 5000 by omega) (And.intro k1 o1)))
  have e0 : decide ((5000 : Int) < (m : Int)) = false := decide_eq_false (by omega)
  clear h1 hm him o1 img
  obtain ⟨K, hK⟩ : ∃ K, K = loadN n im.length := ⟨_, rfl⟩
  have hK10 : K ≤ 10 := by rw [hK]; unfold loadN; have := HIM.out.1; have := HIM.out.2.1; omega
  have hld := fun (W' : World) (A : Option Addr) (c : Nat) (hC : Kd.C (Kd.int .u8) W' A im.length im) (hcb : im.length ≤ c) => load_calls n A c im W' hC hcb (by have := HIM.out.1; have := HIM.out.2.1; omega) HIM.out.2.2.2
  have hrl : ∀ (W' : World), Kd.C (Kd.int .u8) W' A1 m im → Calls Try.prog 20 #[.int .i64 n, .slice A1 m c1] W' fun e w' => ∃ g, e = .returned (.pointer (some ⟨g, 0, none⟩)) ∧ IsRf W'.heap.size w' g (loadTo n im (loadN n im.length)) ∧ Below W'.heap.size W' w' := fun W' hC => by
    rw [HIM.out.1] at hC ⊢
    exact rload_calls n A1 c1 im W' hC (by have := HIM.out.1; have := HIM.out.2.2.1; omega) (by have := HIM.out.1; have := HIM.out.2.1; omega)
  have hs0 := (sim_load n im HIM.out.2.2.2 K).up hK10
  rw [← hK] at hld hrl
  obtain ⟨d0, hd0⟩ : ∃ d0, d0 = loadDTo n im K := ⟨_, rfl⟩
  obtain ⟨r0, hr0⟩ : ∃ r0, r0 = loadTo n im K := ⟨_, rfl⟩
  rw [← hd0] at hld hs0
  rw [← hr0] at hrl hs0
  have HLD := Aside0.mk hld
  have HRL := Aside0.mk hrl
  have HS0 := Aside0.mk hs0
  clear hld hrl hs0 hd0 hr0 hK hK10 K
  go_enter Try.func7, Try.ntmps7
  go_upto_region 4 with (first
    | ((with_reducible refine gate_dst (N := 17) rfl ?_); refine Kd.R_lit (Kd.int .u8) w.heap.size 5 ?hg (N := 17) ?hd (xs := ([] : List Int)) (inner := []) (ok := fun _ => True) (okp := fun _ => True) ?hr ?hp (fun _ hk => hk) trivial (Below.refl _ _) (Nat.le_refl _) (by simp) ?_; (case hd => rfl); (case hg => rfl); (case hr => first | (go_simp; done) | (go_simp; rfl)); (case hp => exact (Reps.none _ _)); intro v3 w3 ho4 hb hg_ hnew_; clear hg_ hnew_; have HO := Aside0.mk ho4; have HB3 := Aside0.mk hb; clear hb ho4)
    | ((with_reducible refine gate_dst (N := 19) rfl ?_); at_builtin; refine Kd.R_append_rows (Kd.int .u8) (w0 := w) w.heap.size rfl (.tmp 17) (.tmp 18) 28 5 (.int .u8 0) 1 rfl Try.underlying28 INF.out rfl (by decide) (by omega) v3 [] im _ _ _ (fun _ => True) (fun _ => False) rfl rfl ?aO ?aR (fun _ _ h => h) (fun _ h => h.elim) ?aF ?aB ?aS ?aL ?_; (case aR => exact Kd.C_below HC.out HB3.out); (case aB => exact HB3.out); (case aF => exact (fun _ _ => trivial)); (case aO => exact HO.out); (case aS => exact HB3.out.size); (case aL => have := HIM.out.2.1; have := HIM.out.1; simp; omega); intro v4 w4 ho hb hg hat; rw [List.nil_append] at ho; obtain ⟨AZ, cZ, rfl⟩ := Kd.R_slice ho; have HZ := Aside0.mk ho; have HB4 := Aside0.mk hb; clear ho hb hg hat)
    | (go_at_call 19; refine (HLD.out _ _ _ (C_ofR HZ.out) (Kd.R_reads' HZ.out).2.1).mono ?_; rintro e w6 ⟨gd, rfl, h1, h2⟩; have HD4 := Aside0.mk (h1.lower HB4.out.size); have HB6 := Aside0.mk (HB4.out.trans (h2.mono HB4.out.size)); clear h1 h2)
    | (go_at_call 20; refine (HRL.out _ (Kd.C_below HC.out HB6.out)).mono ?_; rintro e w5 ⟨gr, rfl, h1, h2⟩; have HR5 := Aside0.mk (h1.lower HB6.out.size); have HD5 := Aside0.mk (HD4.out.below h2); have HB5 := Aside0.mk (HB6.out.trans (h2.mono HB6.out.size)); clear h1 h2 HD4 HB6))
  obtain ⟨vA, vB, vT, vW, hq⟩ := HR5.out
  have HQ5 := Aside0.mk hq.blk
  obtain ⟨nn, hnn⟩ : ∃ nn, nn = r0.n := ⟨_, rfl⟩
  have HN5 := Aside0.mk (show (rcells r0 vA vB vT vW)[0]? = some (Value.int .i64 nn) by rw [hnn]; rfl)
  have HSN := Aside0.mk (show d0.n = nn by rw [hnn]; exact HS0.out.n)
  clear hq hnn
  have hdr5 : Below w5.heap.size w5 w5.drew := below_drew (Below.refl _ _)
  refine start_ (n := 11) (S := fun w' => Below w5.heap.size w5 w') (ds := []) #[false, false, false, false, false, false, false, false, false, false, false] (by kernel_rfl) rfl rfl hdr5 (fun hHeld => ?_)
  refine pure_ (i := 0) (N := some 24) (v := ?_) (a' := ?_) #[true, false, false, false, false, false, false, false, false, false, false] rfl rfl (by kernel_rfl) (fun _ _ _ h => h) (Or.inl ⟨by rfl, ?_⟩) ?_ ?_
  rotate_left
  · intro w'
    go_simp
    with_reducible rfl
  rotate_left
  · simp only [Act.put, List.setIfInBounds_toArray, List.set_cons_zero, List.set_cons_succ]
    rfl
  refine pure_ (i := 1) (N := some 25) (v := .bool false) (a' := ?_) #[true, true, false, false, false, false, false, false, false, false, false] rfl rfl (by kernel_rfl) (fun _ _ _ h => h) (Or.inl ⟨by rfl, ?_⟩) ?_ ?_
  · intro w'
    go_simp
  rotate_left
  · simp only [Act.put, List.setIfInBounds_toArray, List.set_cons_zero, List.set_cons_succ]
    rfl
  refine pure_ (i := 2) (N := some 26) (v := ?_) (a' := ?_) #[true, true, true, false, false, false, false, false, false, false, false] rfl rfl (by kernel_rfl) (fun _ _ _ h => h) (Or.inl ⟨by rfl, ?_⟩) ?_ ?_
  rotate_left
  · intro w'
    go_simp
    with_reducible rfl
  rotate_left
  · simp only [Act.put, List.setIfInBounds_toArray, List.set_cons_zero, List.set_cons_succ]
    rfl
  refine pure_ (i := 3) (N := some 27) (v := ?_) (a' := ?_) #[true, true, true, true, false, false, false, false, false, false, false] rfl rfl (by kernel_rfl) (fun _ _ _ h => h) (Or.inl ⟨by rfl, ?_⟩) ?_ ?_
  rotate_left
  · intro w'
    go_simp
    with_reducible rfl
  rotate_left
  · simp only [Act.put, List.setIfInBounds_toArray, List.set_cons_zero, List.set_cons_succ]
    rfl
  refine pure_ (i := 5) (N := some 29) (v := ?_) (a' := ?_) #[true, true, true, true, false, true, false, false, false, false, false] rfl rfl (by kernel_rfl) (fun _ _ _ h => h) (Or.inl ⟨by rfl, ?_⟩) ?_ ?_
  rotate_left
  · intro w'
    go_simp
    with_reducible rfl
  rotate_left
  · simp only [Act.put, List.setIfInBounds_toArray, List.set_cons_zero, List.set_cons_succ]
    rfl
  refine pure_ (i := 6) (N := some 30) (v := ?_) (a' := ?_) #[true, true, true, true, false, true, true, false, false, false, false] rfl rfl (by kernel_rfl) (fun _ _ _ h => h) (Or.inl ⟨by rfl, ?_⟩) ?_ ?_
  rotate_left
  · intro w'
    go_simp
    with_reducible rfl
  rotate_left
  · simp only [Act.put, List.setIfInBounds_toArray, List.set_cons_zero, List.set_cons_succ]
    rfl
  refine pure_ (i := 7) (N := some 31) (v := ?_) (a' := ?_) #[true, true, true, true, false, true, true, true, false, false, false] rfl rfl (by kernel_rfl) (fun _ _ _ h => h) (Or.inl ⟨by rfl, ?_⟩) ?_ ?_
  rotate_left
  · intro w'
    go_simp
    with_reducible rfl
  rotate_left
  · simp only [Act.put, List.setIfInBounds_toArray, List.set_cons_zero, List.set_cons_succ]
    rfl
  refine take_ (i := 8) (N := some 32) (v := ?_) (a' := ?_) #[true, true, true, true, false, true, true, true, true, false, false] rfl rfl (by kernel_rfl) (fun _ _ _ h => h) (Or.inl ⟨by rfl, ?_⟩) hHeld ?_ ?_
  rotate_left
  · intro w' s0
    have cl_ := (blk_cell (blk_below HQ5.out s0) 0).trans HN5.out
    go_simp
    with_reducible rfl
  rotate_left
  · simp only [Act.put, List.setIfInBounds_toArray, List.set_cons_zero, List.set_cons_succ]
    rfl
  refine one_ (i := 4) (N := some 28) #[true, true, true, true, true, true, true, true, true, false, false] rfl rfl (by kernel_rfl) (by decide) (fun K hK => ?_)
  refine goes_ Try.func21 (by kernel_rfl) rfl #[.pointer (some ⟨gd, 0, none⟩)] (by rfl) rfl rfl (by (try simp only [List.map_toArray, List.map_cons, List.map_nil]); first | done | rfl) ?_
  refine (sectors_calls w.heap.size gd d0 _ (HD5.out.below hHeld)).mono ?_
  rw [HSN.out]
  rintro e w6 ⟨rfl, h4⟩
  obtain rfl := h4.symm
  refine ⟨_, rfl, ?_⟩
  refine hK.out _ _ hHeld (fun hHeld => ?_)
  clear hK K h4
  refine pure_ (i := 9) (N := some 33) (v := .bool false) (a' := ?_) #[true, true, true, true, true, true, true, true, true, true, false] rfl rfl (by kernel_rfl) (fun _ _ _ h => h) (Or.inl ⟨by rfl, ?_⟩) ?_ ?_
  · intro w'
    go_simp
  rotate_left
  · simp only [Act.put, List.setIfInBounds_toArray, List.set_cons_zero, List.set_cons_succ]
    rfl
  refine pure_ (i := 10) (N := some 34) (v := ?_) (a' := ?_) #[true, true, true, true, true, true, true, true, true, true, true] rfl rfl (by kernel_rfl) (fun _ _ _ h => h) (Or.inl ⟨by rfl, ?_⟩) ?_ ?_
  rotate_left
  · intro w'
    go_simp
    with_reducible rfl
  rotate_left
  · simp only [Act.put, List.setIfInBounds_toArray, List.set_cons_zero, List.set_cons_succ]
    rfl
  refine done_ (by kernel_rfl) ?_
  have HD6 := Aside0.mk (HD5.out.below hHeld)
  have HR6 := Aside0.mk (HR5.out.below hHeld)
  have HB6 := Aside0.mk (HB5.out.trans (hHeld.mono HB5.out.size))
  clear hHeld hdr5 HD5 HR5 HB5 HQ5 HN5 HSN
  go_wp2_with fail
  go_loopw [9] (fun x wr => ∃ (k : Nat) (d : D) (r : Rf), k ≤ L ∧ k ≤ 40 ∧ x = .int .i64 k ∧ Aside0 (Sim d r (10 + 2 * k)) ∧ Aside0 (IsD w.heap.size wr gd d) ∧ Aside0 (IsRf w.heap.size wr gr r) ∧ Aside0 (Below w.heap.size w wr)) (fun x _ => L - (intOf x).toNat)
  case atStart => exact ⟨0, d0, r0, Nat.zero_le _, by decide, rfl, HS0, HD6, HR6, HB6⟩
  case round =>
    clear HS0 HD6 HR6 HB6 HZ HB4 HB3 HO
    obtain ⟨k, d, r, hk, hk2, rfl, HSk, HDk, HRk, HBk⟩ := hrel
    by_cases hx1 : k < L
    · have e1 : decide ((k : Int) < L) = true := decide_eq_true (by omega)
      by_cases hx2 : k < 40
      · have e2 : decide ((k : Int) < 40) = true := decide_eq_true (by omega)
        have hat := fun w' (hb : Below w.heap.size w w') => act_full (Kd.C_below H2.out hb) k (by rw [← NL.out]; exact hx1)
        obtain ⟨ad, AB, cB, AK, cK, hA, -, -, -⟩ := hat w (Below.refl _ _)
        have hat := act_full H2.out k (by rw [← NL.out]; exact hx1)
        clear hA
        clear ad AB cB AK cK
        obtain ⟨a, ha⟩ : ∃ a, a = l.getD k act0 := ⟨_, rfl⟩
        rw [← ha] at hat
        obtain ⟨ad, AB, cB, AK, cK, hA, hce, hcb, hck⟩ := hat
        obtain ⟨nb, hnb⟩ : ∃ nb, nb = a.2.2.1.length := ⟨_, rfl⟩
        obtain ⟨nk, hnk⟩ : ∃ nk, nk = a.2.2.2.length := ⟨_, rfl⟩
        rw [← hnb, ← hnk] at hce
        rw [← hnb] at hcb
        rw [← hnk] at hck
        subst hA
        have HCE := Aside0.mk (act_stays H2.out hx1 NL.out hce)
        have HNB := Aside0.mk hnb
        have HNKK := Aside0.mk hnk
        have HLB : Aside0 (∀ W', Below w.heap.size w W' → Kd.C (Kd.int .u8) W' AB nb a.2.2.1) := ⟨fun W' h => Kd.C_below hcb h⟩
        have HLK : Aside0 (∀ W', Below w.heap.size w W' → Kd.C Kd.bool W' AK nk a.2.2.2) := ⟨fun W' h => Kd.C_below hck h⟩
        have HOK := Aside0.mk (show OkA a 140737488351232 by rw [ha]; exact acts_ok O2.out k (by rw [← NL.out]; exact hx1))
        clear hce hcb hck hnb hnk ha
        go_upto_region 9 with fail
        have hdr : Below wr.heap.size wr wr.drew := below_drew (Below.refl _ _)
        have HDk' := Aside0.mk (HDk.out.below hdr)
        have HRk' := Aside0.mk (HRk.out.below hdr)
        have HBk' := Aside0.mk (HBk.out.trans (hdr.mono HBk.out.size))
        clear hdr
        refine start_ (n := 46) (S := fun w' => Below w.heap.size w w') (ds := []) #[false, false, false, false, false, false, false, false, false, false, false, false, false, false, false, false, false, false, false, false, false, false, false, false, false, false, false, false, false, false, false, false, false, false, false, false, false, false, false, false, false, false, false, false, false, false] (by kernel_rfl) rfl rfl HBk'.out (fun hHeld => ?_)
        refine pure_ (i := 0) (N := some 45) (v := ?_) (a' := ?_) #[true, false, false, false, false, false, false, false, false, false, false, false, false, false, false, false, false, false, false, false, false, false, false, false, false, false, false, false, false, false, false, false, false, false, false, false, false, false, false, false, false, false, false, false, false, false] rfl rfl (by kernel_rfl) (fun _ _ _ h => h) (Or.inl ⟨by rfl, ?_⟩) ?_ ?_
        rotate_left
        · intro w'
          go_simp
          with_reducible rfl
        rotate_left
        · simp only [Act.put, List.setIfInBounds_toArray, List.set_cons_zero, List.set_cons_succ]
          rfl
        refine pure_ (i := 1) (N := some 46) (v := ?_) (a' := ?_) #[true, true, false, false, false, false, false, false, false, false, false, false, false, false, false, false, false, false, false, false, false, false, false, false, false, false, false, false, false, false, false, false, false, false, false, false, false, false, false, false, false, false, false, false, false, false] rfl rfl (by kernel_rfl) (fun _ _ _ h => h) (Or.inl ⟨by rfl, ?_⟩) ?_ ?_
        rotate_left
        · intro w'
          go_simp
          with_reducible rfl
        rotate_left
        · simp only [Act.put, List.setIfInBounds_toArray, List.set_cons_zero, List.set_cons_succ]
          rfl
        refine pure_ (i := 2) (N := some 47) (v := ?_) (a' := ?_) #[true, true, true, false, false, false, false, false, false, false, false, false, false, false, false, false, false, false, false, false, false, false, false, false, false, false, false, false, false, false, false, false, false, false, false, false, false, false, false, false, false, false, false, false, false, false] rfl rfl (by kernel_rfl) (fun _ _ _ h => h) (Or.inl ⟨by rfl, ?_⟩) ?_ ?_
        rotate_left
        · intro w'
          go_simp
          with_reducible rfl
        rotate_left
        · simp only [Act.put, List.setIfInBounds_toArray, List.set_cons_zero, List.set_cons_succ]
          rfl
        refine pure_ (i := 3) (N := some 48) (v := ?_) (a' := ?_) #[true, true, true, true, false, false, false, false, false, false, false, false, false, false, false, false, false, false, false, false, false, false, false, false, false, false, false, false, false, false, false, false, false, false, false, false, false, false, false, false, false, false, false, false, false, false] rfl rfl (by kernel_rfl) (fun _ _ _ h => h) (Or.inl ⟨by rfl, ?_⟩) ?_ ?_
        rotate_left
        · intro w'
          go_simp
          with_reducible rfl
        rotate_left
        · simp only [Act.put, List.setIfInBounds_toArray, List.set_cons_zero, List.set_cons_succ]
          rfl
        refine pure_ (i := 4) (N := some 49) (v := ?_) (a' := ?_) #[true, true, true, true, true, false, false, false, false, false, false, false, false, false, false, false, false, false, false, false, false, false, false, false, false, false, false, false, false, false, false, false, false, false, false, false, false, false, false, false, false, false, false, false, false, false] rfl rfl (by kernel_rfl) (fun _ _ _ h => h) (Or.inl ⟨by rfl, ?_⟩) ?_ ?_
        rotate_left
        · intro w'
          go_simp
          with_reducible rfl
        rotate_left
        · simp only [Act.put, List.setIfInBounds_toArray, List.set_cons_zero, List.set_cons_succ]
          rfl
        refine take_ (i := 5) (N := some 50) (v := .agg #[.int .i64 a.1, .int .i64 a.2.1, .slice AB nb cB, .slice AK nk cK]) (a' := ?_) #[true, true, true, true, true, true, false, false, false, false, false, false, false, false, false, false, false, false, false, false, false, false, false, false, false, false, false, false, false, false, false, false, false, false, false, false, false, false, false, false, false, false, false, false, false, false] rfl rfl (by kernel_rfl) (fun _ _ _ h => h) (Or.inl ⟨by rfl, ?_⟩) hHeld ?_ ?_
        · intro w' s0
          exact exec_load (x := .tmp 49) rfl rfl (run_load_any (P := Try.prog) (t := 30) (W := w') (ad := ad.add (k * 4)) (cs := [.int .i64 a.1, .int .i64 a.2.1, .slice AB nb cB, .slice AK nk cK]) Try.underlying30 rfl (by kernel_rfl) (act_cells HCE.out s0))
        rotate_left
        · simp only [Act.put, List.setIfInBounds_toArray, List.set_cons_zero, List.set_cons_succ]
          rfl
        refine one_ (i := 6) (N := some 51) #[true, true, true, true, true, true, true, false, false, false, false, false, false, false, false, false, false, false, false, false, false, false, false, false, false, false, false, false, false, false, false, false, false, false, false, false, false, false, false, false, false, false, false, false, false, false] rfl rfl (by kernel_rfl) (by decide) (fun K hK => ?_)
        refine goes_ Try.func22 (by kernel_rfl) rfl #[.pointer (some ⟨gd, 0, none⟩), .pointer (some ⟨gr, 0, none⟩), .agg #[.int .i64 a.1, .int .i64 a.2.1, .slice AB nb cB, .slice AK nk cK]] (by rfl) rfl rfl (by (try simp only [List.map_toArray, List.map_cons, List.map_nil]); first | done | rfl) ?_
        refine (does_sim w.heap.size gd gr d r (10 + 2 * k) a AB nb cB AK nk cK w _ HDk'.out HRk'.out HBk'.out (Nat.le_refl _) HSk.out (by omega) HOK.out HNB.out HNKK.out HLB.out HLK.out).mono ?_
        rintro e w6 ⟨d6, r6, h1, rfl, h2, h3, h4⟩
        refine ⟨_, rfl, ?_⟩
        have HS6 := Aside0.mk h1
        have HDX := Aside0.mk h2
        have HRX := Aside0.mk h3
        have HBX := Aside0.mk h4
        clear h1 h2 h3 h4
        refine hK.out _ _ HBX.out (fun hHeld => ?_)
        clear hK K hHeld
        refine stronger (S' := fun w' => Below w6.heap.size w6 w') (fun w' h => HBX.out.trans (h.mono HBX.out.size)) _ _ _ _ (Below.refl _ _) ?_
        have hHeld : Below w6.heap.size w6 w6 := Below.refl _ _
        obtain ⟨vA, vB, vT, vW, hq⟩ := HRX.out
        obtain ⟨AT, cT, rfl⟩ := Kd.R_slice hq.rT
        obtain ⟨m6, hm6⟩ : ∃ m6, m6 = r6.to_.length := ⟨_, rfl⟩
        have HQ3 := Aside0.mk (show w6.cell? ⟨gr, 3, none⟩ = some (.slice AT m6 cT) from (blk_cell hq.blk 3).trans (by rw [hm6]; rfl))
        obtain ⟨de, hde⟩ : ∃ de, de = r6.dead := ⟨_, rfl⟩
        have HQ7 := Aside0.mk (show w6.cell? ⟨gr, 7, none⟩ = some (.bool de) from (blk_cell hq.blk 7).trans (by rw [hde]; rfl))
        have HQL := Aside0.mk (blk_lt hq.blk)
        have HPL := Aside0.mk (show d6.since.length = m6 by rw [HS6.out.since, List.length_zip, ← HS6.out.tw, hm6]; omega)
        have HDE := Aside0.mk (show d6.dead = de by rw [HS6.out.dead, hde])
        obtain ⟨pb, hpb⟩ : ∃ pb, pb = bytesR r6 a.2.1 := ⟨_, rfl⟩
        have HPR := Aside0.mk hpb
        have HPB := Aside0.mk (show bytesD d6 a.2.1 = pb by rw [hpb]; exact sim_bytes HS6.out _)
        clear hq hm6 hde hpb
        refine pure_ (i := 7) (N := some 52) (v := ?_) (a' := ?_) #[true, true, true, true, true, true, true, true, false, false, false, false, false, false, false, false, false, false, false, false, false, false, false, false, false, false, false, false, false, false, false, false, false, false, false, false, false, false, false, false, false, false, false, false, false, false] rfl rfl (by kernel_rfl) (fun _ _ _ h => h) (Or.inl ⟨by rfl, ?_⟩) ?_ ?_
        rotate_left
        · intro w'
          go_simp
          with_reducible rfl
        rotate_left
        · simp only [Act.put, List.setIfInBounds_toArray, List.set_cons_zero, List.set_cons_succ]
          rfl
        refine pure_ (i := 8) (N := some 53) (v := .bool false) (a' := ?_) #[true, true, true, true, true, true, true, true, true, false, false, false, false, false, false, false, false, false, false, false, false, false, false, false, false, false, false, false, false, false, false, false, false, false, false, false, false, false, false, false, false, false, false, false, false, false] rfl rfl (by kernel_rfl) (fun _ _ _ h => h) (Or.inl ⟨by rfl, ?_⟩) ?_ ?_
        · intro w'
          go_simp
        rotate_left
        · simp only [Act.put, List.setIfInBounds_toArray, List.set_cons_zero, List.set_cons_succ]
          rfl
        refine pure_ (i := 9) (N := some 54) (v := ?_) (a' := ?_) #[true, true, true, true, true, true, true, true, true, true, false, false, false, false, false, false, false, false, false, false, false, false, false, false, false, false, false, false, false, false, false, false, false, false, false, false, false, false, false, false, false, false, false, false, false, false] rfl rfl (by kernel_rfl) (fun _ _ _ h => h) (Or.inl ⟨by rfl, ?_⟩) ?_ ?_
        rotate_left
        · intro w'
          go_simp
          with_reducible rfl
        rotate_left
        · simp only [Act.put, List.setIfInBounds_toArray, List.set_cons_zero, List.set_cons_succ]
          rfl
        refine pure_ (i := 11) (N := some 56) (v := ?_) (a' := ?_) #[true, true, true, true, true, true, true, true, true, true, false, true, false, false, false, false, false, false, false, false, false, false, false, false, false, false, false, false, false, false, false, false, false, false, false, false, false, false, false, false, false, false, false, false, false, false] rfl rfl (by kernel_rfl) (fun _ _ _ h => h) (Or.inl ⟨by rfl, ?_⟩) ?_ ?_
        rotate_left
        · intro w'
          go_simp
          with_reducible rfl
        rotate_left
        · simp only [Act.put, List.setIfInBounds_toArray, List.set_cons_zero, List.set_cons_succ]
          rfl
        refine pure_ (i := 12) (N := some 57) (v := ?_) (a' := ?_) #[true, true, true, true, true, true, true, true, true, true, false, true, true, false, false, false, false, false, false, false, false, false, false, false, false, false, false, false, false, false, false, false, false, false, false, false, false, false, false, false, false, false, false, false, false, false] rfl rfl (by kernel_rfl) (fun _ _ _ h => h) (Or.inl ⟨by rfl, ?_⟩) ?_ ?_
        rotate_left
        · intro w'
          go_simp
          with_reducible rfl
        rotate_left
        · simp only [Act.put, List.setIfInBounds_toArray, List.set_cons_zero, List.set_cons_succ]
          rfl
        refine pure_ (i := 13) (N := some 58) (v := ?_) (a' := ?_) #[true, true, true, true, true, true, true, true, true, true, false, true, true, true, false, false, false, false, false, false, false, false, false, false, false, false, false, false, false, false, false, false, false, false, false, false, false, false, false, false, false, false, false, false, false, false] rfl rfl (by kernel_rfl) (fun _ _ _ h => h) (Or.inl ⟨by rfl, ?_⟩) ?_ ?_
        rotate_left
        · intro w'
          go_simp
          with_reducible rfl
        rotate_left
        · simp only [Act.put, List.setIfInBounds_toArray, List.set_cons_zero, List.set_cons_succ]
          rfl
        refine take_ (i := 14) (N := some 59) (v := ?_) (a' := ?_) #[true, true, true, true, true, true, true, true, true, true, false, true, true, true, true, false, false, false, false, false, false, false, false, false, false, false, false, false, false, false, false, false, false, false, false, false, false, false, false, false, false, false, false, false, false, false] rfl rfl (by kernel_rfl) (fun _ _ _ h => h) (Or.inl ⟨by rfl, ?_⟩) hHeld ?_ ?_
        rotate_left
        · intro w' s0
          have cl_ := below_cell HQ3.out HQL.out s0
          go_simp
          with_reducible rfl
        rotate_left
        · simp only [Act.put, List.setIfInBounds_toArray, List.set_cons_zero, List.set_cons_succ]
          rfl
        refine pure_ (i := 15) (N := some 60) (v := ?_) (a' := ?_) #[true, true, true, true, true, true, true, true, true, true, false, true, true, true, true, true, false, false, false, false, false, false, false, false, false, false, false, false, false, false, false, false, false, false, false, false, false, false, false, false, false, false, false, false, false, false] rfl rfl (by kernel_rfl) (fun _ _ _ h => h) (Or.inl ⟨by rfl, ?_⟩) ?_ ?_
        rotate_left
        · intro w'
          go_simp
          with_reducible rfl
        rotate_left
        · simp only [Act.put, List.setIfInBounds_toArray, List.set_cons_zero, List.set_cons_succ]
          rfl
        refine one_ (i := 10) (N := some 55) #[true, true, true, true, true, true, true, true, true, true, true, true, true, true, true, true, false, false, false, false, false, false, false, false, false, false, false, false, false, false, false, false, false, false, false, false, false, false, false, false, false, false, false, false, false, false] rfl rfl (by kernel_rfl) (by decide) (fun K hK => ?_)
        refine goes_ Try.func17 (by kernel_rfl) rfl #[.pointer (some ⟨gd, 0, none⟩)] (by rfl) rfl rfl (by (try simp only [List.map_toArray, List.map_cons, List.map_nil]); first | done | rfl) ?_
        refine (pending_calls w.heap.size gd d6 _ HDX.out).mono ?_
        rw [HPL.out]
        rintro e w7 ⟨rfl, h4⟩
        obtain rfl := h4.symm
        refine ⟨_, rfl, ?_⟩
        refine hK.out _ _ hHeld (fun hHeld => ?_)
        clear hK K h4
        refine pure_ (i := 16) (N := some 61) (v := .bool false) (a' := ?_) #[true, true, true, true, true, true, true, true, true, true, true, true, true, true, true, true, true, false, false, false, false, false, false, false, false, false, false, false, false, false, false, false, false, false, false, false, false, false, false, false, false, false, false, false, false, false] rfl rfl (by kernel_rfl) (fun _ _ _ h => h) (Or.inl ⟨by rfl, ?_⟩) ?_ ?_
        · intro w'
          go_simp
        rotate_left
        · simp only [Act.put, List.setIfInBounds_toArray, List.set_cons_zero, List.set_cons_succ]
          rfl
        refine pure_ (i := 17) (N := some 62) (v := .bool false) (a' := ?_) #[true, true, true, true, true, true, true, true, true, true, true, true, true, true, true, true, true, true, false, false, false, false, false, false, false, false, false, false, false, false, false, false, false, false, false, false, false, false, false, false, false, false, false, false, false, false] rfl rfl (by kernel_rfl) (fun _ _ _ h => h) (Or.inl ⟨by rfl, ?_⟩) ?_ ?_
        · intro w'
          go_simp
        rotate_left
        · simp only [Act.put, List.setIfInBounds_toArray, List.set_cons_zero, List.set_cons_succ]
          rfl
        refine pure_ (i := 18) (N := some 63) (v := .bool false) (a' := ?_) #[true, true, true, true, true, true, true, true, true, true, true, true, true, true, true, true, true, true, true, false, false, false, false, false, false, false, false, false, false, false, false, false, false, false, false, false, false, false, false, false, false, false, false, false, false, false] rfl rfl (by kernel_rfl) (fun _ _ _ h => h) (Or.inl ⟨by rfl, ?_⟩) ?_ ?_
        · intro w'
          go_simp
        rotate_left
        · simp only [Act.put, List.setIfInBounds_toArray, List.set_cons_zero, List.set_cons_succ]
          rfl
        refine pure_ (i := 19) (N := some 64) (v := ?_) (a' := ?_) #[true, true, true, true, true, true, true, true, true, true, true, true, true, true, true, true, true, true, true, true, false, false, false, false, false, false, false, false, false, false, false, false, false, false, false, false, false, false, false, false, false, false, false, false, false, false] rfl rfl (by kernel_rfl) (fun _ _ _ h => h) (Or.inl ⟨by rfl, ?_⟩) ?_ ?_
        rotate_left
        · intro w'
          go_simp
          with_reducible rfl
        rotate_left
        · simp only [Act.put, List.setIfInBounds_toArray, List.set_cons_zero, List.set_cons_succ]
          rfl
        refine pure_ (i := 21) (N := some 66) (v := ?_) (a' := ?_) #[true, true, true, true, true, true, true, true, true, true, true, true, true, true, true, true, true, true, true, true, false, true, false, false, false, false, false, false, false, false, false, false, false, false, false, false, false, false, false, false, false, false, false, false, false, false] rfl rfl (by kernel_rfl) (fun _ _ _ h => h) (Or.inl ⟨by rfl, ?_⟩) ?_ ?_
        rotate_left
        · intro w'
          go_simp
          with_reducible rfl
        rotate_left
        · simp only [Act.put, List.setIfInBounds_toArray, List.set_cons_zero, List.set_cons_succ]
          rfl
        refine pure_ (i := 22) (N := some 67) (v := ?_) (a' := ?_) #[true, true, true, true, true, true, true, true, true, true, true, true, true, true, true, true, true, true, true, true, false, true, true, false, false, false, false, false, false, false, false, false, false, false, false, false, false, false, false, false, false, false, false, false, false, false] rfl rfl (by kernel_rfl) (fun _ _ _ h => h) (Or.inl ⟨by rfl, ?_⟩) ?_ ?_
        rotate_left
        · intro w'
          go_simp
          with_reducible rfl
        rotate_left
        · simp only [Act.put, List.setIfInBounds_toArray, List.set_cons_zero, List.set_cons_succ]
          rfl
        refine pure_ (i := 23) (N := some 68) (v := ?_) (a' := ?_) #[true, true, true, true, true, true, true, true, true, true, true, true, true, true, true, true, true, true, true, true, false, true, true, true, false, false, false, false, false, false, false, false, false, false, false, false, false, false, false, false, false, false, false, false, false, false] rfl rfl (by kernel_rfl) (fun _ _ _ h => h) (Or.inl ⟨by rfl, ?_⟩) ?_ ?_
        rotate_left
        · intro w'
          go_simp
          with_reducible rfl
        rotate_left
        · simp only [Act.put, List.setIfInBounds_toArray, List.set_cons_zero, List.set_cons_succ]
          rfl
        refine take_ (i := 24) (N := some 69) (v := ?_) (a' := ?_) #[true, true, true, true, true, true, true, true, true, true, true, true, true, true, true, true, true, true, true, true, false, true, true, true, true, false, false, false, false, false, false, false, false, false, false, false, false, false, false, false, false, false, false, false, false, false] rfl rfl (by kernel_rfl) (fun _ _ _ h => h) (Or.inl ⟨by rfl, ?_⟩) hHeld ?_ ?_
        rotate_left
        · intro w' s0
          have cl_ := below_cell HQ7.out HQL.out s0
          go_simp
          with_reducible rfl
        rotate_left
        · simp only [Act.put, List.setIfInBounds_toArray, List.set_cons_zero, List.set_cons_succ]
          rfl
        refine one_ (i := 20) (N := some 65) #[true, true, true, true, true, true, true, true, true, true, true, true, true, true, true, true, true, true, true, true, true, true, true, true, true, false, false, false, false, false, false, false, false, false, false, false, false, false, false, false, false, false, false, false, false, false] rfl rfl (by kernel_rfl) (by decide) (fun K hK => ?_)
        refine goes_ Try.func18 (by kernel_rfl) rfl #[.pointer (some ⟨gd, 0, none⟩)] (by rfl) rfl rfl (by (try simp only [List.map_toArray, List.map_cons, List.map_nil]); first | done | rfl) ?_
        refine (dead_calls w.heap.size gd d6 _ HDX.out).mono ?_
        rw [HDE.out]
        rintro e w7 ⟨rfl, h4⟩
        obtain rfl := h4.symm
        refine ⟨_, rfl, ?_⟩
        refine hK.out _ _ hHeld (fun hHeld => ?_)
        clear hK K h4
        refine pure_ (i := 25) (N := some 70) (v := .bool false) (a' := ?_) #[true, true, true, true, true, true, true, true, true, true, true, true, true, true, true, true, true, true, true, true, true, true, true, true, true, true, false, false, false, false, false, false, false, false, false, false, false, false, false, false, false, false, false, false, false, false] rfl rfl (by kernel_rfl) (fun _ _ _ h => h) (Or.inl ⟨by rfl, ?_⟩) ?_ ?_
        · intro w'
          go_simp
        rotate_left
        · simp only [Act.put, List.setIfInBounds_toArray, List.set_cons_zero, List.set_cons_succ]
          rfl
        refine pure_ (i := 26) (N := some 71) (v := .bool false) (a' := ?_) #[true, true, true, true, true, true, true, true, true, true, true, true, true, true, true, true, true, true, true, true, true, true, true, true, true, true, true, false, false, false, false, false, false, false, false, false, false, false, false, false, false, false, false, false, false, false] rfl rfl (by kernel_rfl) (fun _ _ _ h => h) (Or.inl ⟨by rfl, ?_⟩) ?_ ?_
        · intro w'
          go_simp
        rotate_left
        · simp only [Act.put, List.setIfInBounds_toArray, List.set_cons_zero, List.set_cons_succ]
          rfl
        refine pure_ (i := 27) (N := some 72) (v := .bool false) (a' := ?_) #[true, true, true, true, true, true, true, true, true, true, true, true, true, true, true, true, true, true, true, true, true, true, true, true, true, true, true, true, false, false, false, false, false, false, false, false, false, false, false, false, false, false, false, false, false, false] rfl rfl (by kernel_rfl) (fun _ _ _ h => h) (Or.inl ⟨by rfl, ?_⟩) ?_ ?_
        · intro w'
          go_simp
        rotate_left
        · simp only [Act.put, List.setIfInBounds_toArray, List.set_cons_zero, List.set_cons_succ]
          rfl
        refine pure_ (i := 28) (N := some 73) (v := ?_) (a' := ?_) #[true, true, true, true, true, true, true, true, true, true, true, true, true, true, true, true, true, true, true, true, true, true, true, true, true, true, true, true, true, false, false, false, false, false, false, false, false, false, false, false, false, false, false, false, false, false] rfl rfl (by kernel_rfl) (fun _ _ _ h => h) (Or.inl ⟨by rfl, ?_⟩) ?_ ?_
        rotate_left
        · intro w'
          go_simp
          with_reducible rfl
        rotate_left
        · simp only [Act.put, List.setIfInBounds_toArray, List.set_cons_zero, List.set_cons_succ]
          rfl
        refine pure_ (i := 29) (N := some 74) (v := ?_) (a' := ?_) #[true, true, true, true, true, true, true, true, true, true, true, true, true, true, true, true, true, true, true, true, true, true, true, true, true, true, true, true, true, true, false, false, false, false, false, false, false, false, false, false, false, false, false, false, false, false] rfl rfl (by kernel_rfl) (fun _ _ _ h => h) (Or.inl ⟨by rfl, ?_⟩) ?_ ?_
        rotate_left
        · intro w'
          go_simp
          with_reducible rfl
        rotate_left
        · simp only [Act.put, List.setIfInBounds_toArray, List.set_cons_zero, List.set_cons_succ]
          rfl
        refine pure_ (i := 30) (N := some 75) (v := ?_) (a' := ?_) #[true, true, true, true, true, true, true, true, true, true, true, true, true, true, true, true, true, true, true, true, true, true, true, true, true, true, true, true, true, true, true, false, false, false, false, false, false, false, false, false, false, false, false, false, false, false] rfl rfl (by kernel_rfl) (fun _ _ _ h => h) (Or.inl ⟨by rfl, ?_⟩) ?_ ?_
        rotate_left
        · intro w'
          go_simp
          with_reducible rfl
        rotate_left
        · simp only [Act.put, List.setIfInBounds_toArray, List.set_cons_zero, List.set_cons_succ]
          rfl
        refine pure_ (i := 31) (N := some 76) (v := ?_) (a' := ?_) #[true, true, true, true, true, true, true, true, true, true, true, true, true, true, true, true, true, true, true, true, true, true, true, true, true, true, true, true, true, true, true, true, false, false, false, false, false, false, false, false, false, false, false, false, false, false] rfl rfl (by kernel_rfl) (fun _ _ _ h => h) (Or.inl ⟨by rfl, ?_⟩) ?_ ?_
        rotate_left
        · intro w'
          go_simp
          with_reducible rfl
        rotate_left
        · simp only [Act.put, List.setIfInBounds_toArray, List.set_cons_zero, List.set_cons_succ]
          rfl
        refine pure_ (i := 32) (N := some 77) (v := ?_) (a' := ?_) #[true, true, true, true, true, true, true, true, true, true, true, true, true, true, true, true, true, true, true, true, true, true, true, true, true, true, true, true, true, true, true, true, true, false, false, false, false, false, false, false, false, false, false, false, false, false] rfl rfl (by kernel_rfl) (fun _ _ _ h => h) (Or.inl ⟨by rfl, ?_⟩) ?_ ?_
        rotate_left
        · intro w'
          go_simp
          with_reducible rfl
        rotate_left
        · simp only [Act.put, List.setIfInBounds_toArray, List.set_cons_zero, List.set_cons_succ]
          rfl
        refine take_ (i := 33) (N := some 78) (v := ?_) (a' := ?_) #[true, true, true, true, true, true, true, true, true, true, true, true, true, true, true, true, true, true, true, true, true, true, true, true, true, true, true, true, true, true, true, true, true, true, false, false, false, false, false, false, false, false, false, false, false, false] rfl rfl (by kernel_rfl) (fun _ _ _ h => h) (Or.inl ⟨by rfl, ?_⟩) hHeld ?_ ?_
        rotate_left
        · intro w' s0
          have s1 := act_cell1 HCE.out (HBX.out.trans (Below.mono s0 HBX.out.size))
          go_simp
          with_reducible rfl
        rotate_left
        · simp only [Act.put, List.setIfInBounds_toArray, List.set_cons_zero, List.set_cons_succ]
          rfl
        refine pure_ (i := 36) (N := some 81) (v := ?_) (a' := ?_) #[true, true, true, true, true, true, true, true, true, true, true, true, true, true, true, true, true, true, true, true, true, true, true, true, true, true, true, true, true, true, true, true, true, true, false, false, true, false, false, false, false, false, false, false, false, false] rfl rfl (by kernel_rfl) (fun _ _ _ h => h) (Or.inl ⟨by rfl, ?_⟩) ?_ ?_
        rotate_left
        · intro w'
          go_simp
          with_reducible rfl
        rotate_left
        · simp only [Act.put, List.setIfInBounds_toArray, List.set_cons_zero, List.set_cons_succ]
          rfl
        refine pure_ (i := 37) (N := some 82) (v := ?_) (a' := ?_) #[true, true, true, true, true, true, true, true, true, true, true, true, true, true, true, true, true, true, true, true, true, true, true, true, true, true, true, true, true, true, true, true, true, true, false, false, true, true, false, false, false, false, false, false, false, false] rfl rfl (by kernel_rfl) (fun _ _ _ h => h) (Or.inl ⟨by rfl, ?_⟩) ?_ ?_
        rotate_left
        · intro w'
          go_simp
          with_reducible rfl
        rotate_left
        · simp only [Act.put, List.setIfInBounds_toArray, List.set_cons_zero, List.set_cons_succ]
          rfl
        refine pure_ (i := 38) (N := some 83) (v := ?_) (a' := ?_) #[true, true, true, true, true, true, true, true, true, true, true, true, true, true, true, true, true, true, true, true, true, true, true, true, true, true, true, true, true, true, true, true, true, true, false, false, true, true, true, false, false, false, false, false, false, false] rfl rfl (by kernel_rfl) (fun _ _ _ h => h) (Or.inl ⟨by rfl, ?_⟩) ?_ ?_
        rotate_left
        · intro w'
          go_simp
          with_reducible rfl
        rotate_left
        · simp only [Act.put, List.setIfInBounds_toArray, List.set_cons_zero, List.set_cons_succ]
          rfl
        refine pure_ (i := 39) (N := some 84) (v := ?_) (a' := ?_) #[true, true, true, true, true, true, true, true, true, true, true, true, true, true, true, true, true, true, true, true, true, true, true, true, true, true, true, true, true, true, true, true, true, true, false, false, true, true, true, true, false, false, false, false, false, false] rfl rfl (by kernel_rfl) (fun _ _ _ h => h) (Or.inl ⟨by rfl, ?_⟩) ?_ ?_
        rotate_left
        · intro w'
          go_simp
          with_reducible rfl
        rotate_left
        · simp only [Act.put, List.setIfInBounds_toArray, List.set_cons_zero, List.set_cons_succ]
          rfl
        refine pure_ (i := 40) (N := some 85) (v := ?_) (a' := ?_) #[true, true, true, true, true, true, true, true, true, true, true, true, true, true, true, true, true, true, true, true, true, true, true, true, true, true, true, true, true, true, true, true, true, true, false, false, true, true, true, true, true, false, false, false, false, false] rfl rfl (by kernel_rfl) (fun _ _ _ h => h) (Or.inl ⟨by rfl, ?_⟩) ?_ ?_
        rotate_left
        · intro w'
          go_simp
          with_reducible rfl
        rotate_left
        · simp only [Act.put, List.setIfInBounds_toArray, List.set_cons_zero, List.set_cons_succ]
          rfl
        refine take_ (i := 41) (N := some 86) (v := ?_) (a' := ?_) #[true, true, true, true, true, true, true, true, true, true, true, true, true, true, true, true, true, true, true, true, true, true, true, true, true, true, true, true, true, true, true, true, true, true, false, false, true, true, true, true, true, true, false, false, false, false] rfl rfl (by kernel_rfl) (fun _ _ _ h => h) (Or.inl ⟨by rfl, ?_⟩) hHeld ?_ ?_
        rotate_left
        · intro w' s0
          have s1 := act_cell1 HCE.out (HBX.out.trans (Below.mono s0 HBX.out.size))
          go_simp
          with_reducible rfl
        rotate_left
        · simp only [Act.put, List.setIfInBounds_toArray, List.set_cons_zero, List.set_cons_succ]
          rfl
        refine one_ (i := 34) (N := some 79) #[true, true, true, true, true, true, true, true, true, true, true, true, true, true, true, true, true, true, true, true, true, true, true, true, true, true, true, true, true, true, true, true, true, true, true, false, true, true, true, true, true, true, false, false, false, false] rfl rfl (by kernel_rfl) (by decide) (fun K hK => ?_)
        refine goes_ Try.func12 (by kernel_rfl) rfl #[.pointer (some ⟨gd, 0, none⟩), .int .i64 a.2.1] (by rfl) rfl rfl (by (try simp only [List.map_toArray, List.map_cons, List.map_nil]); first | done | rfl) ?_
        refine (bytes_calls w.heap.size gd d6 a.2.1 HOK.out.at_ _ HDX.out).mono ?_
        rw [HPB.out]
        rintro e wy ⟨vy, rfl, h4, h5⟩
        refine ⟨vy, rfl, ?_⟩
        obtain ⟨AY, cY, rfl⟩ := Kd.R_slice h4
        have HY := Aside0.mk h4
        have HBY := Aside0.mk h5
        have HB8 := Aside0.mk (HBX.out.trans (h5.mono HBX.out.size))
        have HD8 := Aside0.mk (HDX.out.below h5)
        have HR8 := Aside0.mk (HRX.out.below h5)
        clear h4 h5
        refine hK.out _ _ HBY.out (fun hHeld => ?_)
        clear hK K hHeld
        refine stronger (S' := fun w' => Below wy.heap.size wy w') (fun w' h => HBY.out.trans (h.mono HBY.out.size)) _ _ _ _ (Below.refl _ _) ?_
        have hHeld : Below wy.heap.size wy wy := Below.refl _ _
        refine take_ (i := 35) (N := some 80) (v := .string (strOfNums pb)) (a' := ?_) #[true, true, true, true, true, true, true, true, true, true, true, true, true, true, true, true, true, true, true, true, true, true, true, true, true, true, true, true, true, true, true, true, true, true, true, true, true, true, true, true, true, true, false, false, false, false] rfl rfl (by kernel_rfl) (fun _ _ _ h => h) (Or.inl ⟨by rfl, ?_⟩) hHeld ?_ ?_
        · intro w' s0
          exact exec_conv (x := .tmp 79) rfl rfl (bytes_string (c := cY) (Kd.C_below (C_ofR HY.out) s0))
        rotate_left
        · simp only [Act.put, List.setIfInBounds_toArray, List.set_cons_zero, List.set_cons_succ]
          rfl
        refine one_ (i := 42) (N := some 87) #[true, true, true, true, true, true, true, true, true, true, true, true, true, true, true, true, true, true, true, true, true, true, true, true, true, true, true, true, true, true, true, true, true, true, true, true, true, true, true, true, true, true, true, false, false, false] rfl rfl (by kernel_rfl) (by decide) (fun K hK => ?_)
        refine goes_ Try.func23 (by kernel_rfl) rfl #[.pointer (some ⟨gr, 0, none⟩), .int .i64 a.2.1] (by rfl) rfl rfl (by (try simp only [List.map_toArray, List.map_cons, List.map_nil]); first | done | rfl) ?_
        refine (rbytes_calls w.heap.size gr r6 a.2.1 _ HR8.out HS6.out.ab (by have := HS6.out.size; omega)).mono ?_
        rw [← HPR.out]
        rintro e wz ⟨vz, rfl, h4, h5⟩
        refine ⟨vz, rfl, ?_⟩
        obtain ⟨AZ9, cZ9, rfl⟩ := Kd.R_slice h4
        have HZ9 := Aside0.mk h4
        have HB9 := Aside0.mk (HB8.out.trans (h5.mono HB8.out.size))
        have HD9 := Aside0.mk (HD8.out.below h5)
        have HR9 := Aside0.mk (HR8.out.below h5)
        have HBZ := Aside0.mk h5
        clear h4 h5
        refine hK.out _ _ HBZ.out (fun hHeld => ?_)
        clear hK K HBZ
        refine one_ (i := 43) (N := some 88) #[true, true, true, true, true, true, true, true, true, true, true, true, true, true, true, true, true, true, true, true, true, true, true, true, true, true, true, true, true, true, true, true, true, true, true, true, true, true, true, true, true, true, true, true, false, false] rfl rfl (by kernel_rfl) (by decide) (fun K hK => ?_)
        refine value_ (by rfl) rfl (exec_conv (x := .tmp 87) rfl rfl (bytes_string (c := cZ9) (C_ofR HZ9.out))) ?_
        show K (Act.put _ (some 88) _) _
        simp only [Act.put, List.setIfInBounds_toArray, List.set_cons_zero, List.set_cons_succ]
        refine hK.out _ _ hHeld (fun hHeld => ?_)
        clear hK K 
        refine pure_ (i := 44) (N := some 89) (v := .bool false) (a' := ?_) #[true, true, true, true, true, true, true, true, true, true, true, true, true, true, true, true, true, true, true, true, true, true, true, true, true, true, true, true, true, true, true, true, true, true, true, true, true, true, true, true, true, true, true, true, true, false] rfl rfl (by kernel_rfl) (fun _ _ _ h => h) (Or.inl ⟨by rfl, ?_⟩) ?_ ?_
        · intro w'
          go_simp
        rotate_left
        · simp only [Act.put, List.setIfInBounds_toArray, List.set_cons_zero, List.set_cons_succ]
          rfl
        refine pure_ (i := 45) (N := some 90) (v := .bool false) (a' := ?_) #[true, true, true, true, true, true, true, true, true, true, true, true, true, true, true, true, true, true, true, true, true, true, true, true, true, true, true, true, true, true, true, true, true, true, true, true, true, true, true, true, true, true, true, true, true, true] rfl rfl (by kernel_rfl) (fun _ _ _ h => h) (Or.inl ⟨by rfl, ?_⟩) ?_ ?_
        · intro w'
          go_simp
        rotate_left
        · simp only [Act.put, List.setIfInBounds_toArray, List.set_cons_zero, List.set_cons_succ]
          rfl
        refine done_ (by kernel_rfl) ?_
        go_wp2
        go_roundw
        case rel => exact ⟨k + 1, d6, r6, by omega, by omega, by go_num, ⟨by have h9 := HS6.out; rw [show 10 + 2 * (k + 1) = 10 + 2 * k + 2 by omega]; exact h9⟩, HD9, HR9, HB9⟩
        case measure => simp [intOf]; omega
      · have e2 : decide ((k : Int) < 40) = false := decide_eq_false (by omega)
        go_wp2_with fail
        go_loopw [10] (fun x wr => ∃ j : Nat, j ≤ 12 ∧ x = .int .i64 j ∧ Aside0 (IsD w.heap.size wr gd d) ∧ Aside0 (IsRf w.heap.size wr gr r) ∧ Aside0 (Below w.heap.size w wr)) (fun x _ => 12 - (intOf x).toNat)
        case atStart => exact ⟨0, by decide, rfl, HDk, HRk, HBk⟩
        case round =>
          clear HDk HRk HBk
          obtain ⟨j, hj, rfl, HDq, HRq, HBq⟩ := hrel
          by_cases hlt2 : j < 12
          · have e4 : decide ((j : Int) < 12) = true := decide_eq_true (by omega)
            obtain ⟨pb, hpb⟩ : ∃ pb, pb = bytesR r (j : Int) := ⟨_, rfl⟩
            have HPR := Aside0.mk hpb
            have HPB := Aside0.mk (show bytesD d (j : Int) = pb by rw [hpb]; exact sim_bytes HSk.out _)
            clear hpb
            go_upto_region 14 with fail
            have hdr : Below wr.heap.size wr wr.drew := below_drew (Below.refl _ _)
            have HDX := Aside0.mk (HDq.out.below hdr)
            have HRX := Aside0.mk (HRq.out.below hdr)
            have HBX := Aside0.mk (HBq.out.trans (hdr.mono HBq.out.size))
            clear hdr
            refine start_ (n := 9) (S := fun w' => Below w.heap.size w w') (ds := []) #[false, false, false, false, false, false, false, false, false] (by kernel_rfl) rfl rfl HBX.out (fun hHeld => ?_)
            refine pure_ (i := 0) (N := some 95) (v := ?_) (a' := ?_) #[true, false, false, false, false, false, false, false, false] rfl rfl (by kernel_rfl) (fun _ _ _ h => h) (Or.inl ⟨by rfl, ?_⟩) ?_ ?_
            rotate_left
            · intro w'
              go_simp
              with_reducible rfl
            rotate_left
            · simp only [Act.put, List.setIfInBounds_toArray, List.set_cons_zero, List.set_cons_succ]
              rfl
            refine pure_ (i := 1) (N := some 96) (v := ?_) (a' := ?_) #[true, true, false, false, false, false, false, false, false] rfl rfl (by kernel_rfl) (fun _ _ _ h => h) (Or.inl ⟨by rfl, ?_⟩) ?_ ?_
            rotate_left
            · intro w'
              go_simp
              with_reducible rfl
            rotate_left
            · simp only [Act.put, List.setIfInBounds_toArray, List.set_cons_zero, List.set_cons_succ]
              rfl
            refine pure_ (i := 4) (N := some 99) (v := ?_) (a' := ?_) #[true, true, false, false, true, false, false, false, false] rfl rfl (by kernel_rfl) (fun _ _ _ h => h) (Or.inl ⟨by rfl, ?_⟩) ?_ ?_
            rotate_left
            · intro w'
              go_simp
              with_reducible rfl
            rotate_left
            · simp only [Act.put, List.setIfInBounds_toArray, List.set_cons_zero, List.set_cons_succ]
              rfl
            refine pure_ (i := 5) (N := some 100) (v := ?_) (a' := ?_) #[true, true, false, false, true, true, false, false, false] rfl rfl (by kernel_rfl) (fun _ _ _ h => h) (Or.inl ⟨by rfl, ?_⟩) ?_ ?_
            rotate_left
            · intro w'
              go_simp
              with_reducible rfl
            rotate_left
            · simp only [Act.put, List.setIfInBounds_toArray, List.set_cons_zero, List.set_cons_succ]
              rfl
            refine one_ (i := 2) (N := some 97) #[true, true, true, false, true, true, false, false, false] rfl rfl (by kernel_rfl) (by decide) (fun K hK => ?_)
            refine goes_ Try.func12 (by kernel_rfl) rfl #[.pointer (some ⟨gd, 0, none⟩), .int .i64 (j : Int)] (by rfl) rfl rfl (by (try simp only [List.map_toArray, List.map_cons, List.map_nil]); first | done | rfl) ?_
            refine (bytes_calls w.heap.size gd d (j : Int) ⟨by omega, by omega⟩ _ HDX.out).mono ?_
            rw [HPB.out]
            rintro e wy ⟨vy, rfl, h4, h5⟩
            refine ⟨vy, rfl, ?_⟩
            obtain ⟨AY, cY, rfl⟩ := Kd.R_slice h4
            have HY := Aside0.mk h4
            have HBY := Aside0.mk h5
            have HB8 := Aside0.mk (HBX.out.trans (h5.mono HBX.out.size))
            have HD8 := Aside0.mk (HDX.out.below h5)
            have HR8 := Aside0.mk (HRX.out.below h5)
            clear h4 h5
            refine hK.out _ _ HB8.out (fun hHeld => ?_)
            clear hK K hHeld
            refine stronger (S' := fun w' => Below wy.heap.size wy w') (fun w' h => HB8.out.trans (h.mono HB8.out.size)) _ _ _ _ (Below.refl _ _) ?_
            have hHeld : Below wy.heap.size wy wy := Below.refl _ _
            refine take_ (i := 3) (N := some 98) (v := .string (strOfNums pb)) (a' := ?_) #[true, true, true, true, true, true, false, false, false] rfl rfl (by kernel_rfl) (fun _ _ _ h => h) (Or.inl ⟨by rfl, ?_⟩) hHeld ?_ ?_
            · intro w' s0
              exact exec_conv (x := .tmp 97) rfl rfl (bytes_string (c := cY) (Kd.C_below (C_ofR HY.out) s0))
            rotate_left
            · simp only [Act.put, List.setIfInBounds_toArray, List.set_cons_zero, List.set_cons_succ]
              rfl
            refine one_ (i := 6) (N := some 101) #[true, true, true, true, true, true, true, false, false] rfl rfl (by kernel_rfl) (by decide) (fun K hK => ?_)
            refine goes_ Try.func23 (by kernel_rfl) rfl #[.pointer (some ⟨gr, 0, none⟩), .int .i64 (j : Int)] (by rfl) rfl rfl (by (try simp only [List.map_toArray, List.map_cons, List.map_nil]); first | done | rfl) ?_
            refine (rbytes_calls w.heap.size gr r (j : Int) _ HR8.out HSk.out.ab (by have := HSk.out.size; omega)).mono ?_
            rw [← HPR.out]
            rintro e wz ⟨vz, rfl, h4, h5⟩
            refine ⟨vz, rfl, ?_⟩
            obtain ⟨AZ9, cZ9, rfl⟩ := Kd.R_slice h4
            have HZ9 := Aside0.mk h4
            have HB9 := Aside0.mk (HB8.out.trans (h5.mono HB8.out.size))
            have HD9 := Aside0.mk (HD8.out.below h5)
            have HR9 := Aside0.mk (HR8.out.below h5)
            have HBZ := Aside0.mk h5
            clear h4 h5
            refine hK.out _ _ HBZ.out (fun hHeld => ?_)
            clear hK K HBZ
            refine one_ (i := 7) (N := some 102) #[true, true, true, true, true, true, true, true, false] rfl rfl (by kernel_rfl) (by decide) (fun K hK => ?_)
            refine value_ (by rfl) rfl (exec_conv (x := .tmp 101) rfl rfl (bytes_string (c := cZ9) (C_ofR HZ9.out))) ?_
            show K (Act.put _ (some 102) _) _
            simp only [Act.put, List.setIfInBounds_toArray, List.set_cons_zero, List.set_cons_succ]
            refine hK.out _ _ hHeld (fun hHeld => ?_)
            clear hK K 
            refine pure_ (i := 8) (N := some 103) (v := .bool false) (a' := ?_) #[true, true, true, true, true, true, true, true, true] rfl rfl (by kernel_rfl) (fun _ _ _ h => h) (Or.inl ⟨by rfl, ?_⟩) ?_ ?_
            · intro w'
              go_simp
            rotate_left
            · simp only [Act.put, List.setIfInBounds_toArray, List.set_cons_zero, List.set_cons_succ]
              rfl
            refine done_ (by kernel_rfl) ?_
            go_wp2
            go_roundw
            case rel => exact ⟨j + 1, by omega, by go_num, HD9, HR9, HB9⟩
            case measure => simp [intOf]; omega
          · have e4 : decide ((j : Int) < 12) = false := decide_eq_false (by omega)
            go_wp2_with (first
              | (go_at_call 14; refine (lives_calls _).mono ?_; rintro e w9 ⟨rfl, h4⟩; have HB9 := Aside0.mk (HBq.out.trans (h4.mono HBq.out.size)); clear h4))
            go_ret
            exact ⟨rfl, HB9.out⟩
    · have e1 : decide ((k : Int) < L) = false := decide_eq_false (by omega)
      go_wp2_with fail
      go_loopw [10] (fun x wr => ∃ j : Nat, j ≤ 12 ∧ x = .int .i64 j ∧ Aside0 (IsD w.heap.size wr gd d) ∧ Aside0 (IsRf w.heap.size wr gr r) ∧ Aside0 (Below w.heap.size w wr)) (fun x _ => 12 - (intOf x).toNat)
      case atStart => exact ⟨0, by decide, rfl, HDk, HRk, HBk⟩
      case round =>
        clear HDk HRk HBk
        obtain ⟨j, hj, rfl, HDq, HRq, HBq⟩ := hrel
        by_cases hlt2 : j < 12
        · have e4 : decide ((j : Int) < 12) = true := decide_eq_true (by omega)
          obtain ⟨pb, hpb⟩ : ∃ pb, pb = bytesR r (j : Int) := ⟨_, rfl⟩
          have HPR := Aside0.mk hpb
          have HPB := Aside0.mk (show bytesD d (j : Int) = pb by rw [hpb]; exact sim_bytes HSk.out _)
          clear hpb
          go_upto_region 14 with fail
          have hdr : Below wr.heap.size wr wr.drew := below_drew (Below.refl _ _)
          have HDX := Aside0.mk (HDq.out.below hdr)
          have HRX := Aside0.mk (HRq.out.below hdr)
          have HBX := Aside0.mk (HBq.out.trans (hdr.mono HBq.out.size))
          clear hdr
          refine start_ (n := 9) (S := fun w' => Below w.heap.size w w') (ds := []) #[false, false, false, false, false, false, false, false, false] (by kernel_rfl) rfl rfl HBX.out (fun hHeld => ?_)
          refine pure_ (i := 0) (N := some 95) (v := ?_) (a' := ?_) #[true, false, false, false, false, false, false, false, false] rfl rfl (by kernel_rfl) (fun _ _ _ h => h) (Or.inl ⟨by rfl, ?_⟩) ?_ ?_
          rotate_left
          · intro w'
            go_simp
            with_reducible rfl
          rotate_left
          · simp only [Act.put, List.setIfInBounds_toArray, List.set_cons_zero, List.set_cons_succ]
            rfl
          refine pure_ (i := 1) (N := some 96) (v := ?_) (a' := ?_) #[true, true, false, false, false, false, false, false, false] rfl rfl (by kernel_rfl) (fun _ _ _ h => h) (Or.inl ⟨by rfl, ?_⟩) ?_ ?_
          rotate_left
          · intro w'
            go_simp
            with_reducible rfl
          rotate_left
          · simp only [Act.put, List.setIfInBounds_toArray, List.set_cons_zero, List.set_cons_succ]
            rfl
          refine pure_ (i := 4) (N := some 99) (v := ?_) (a' := ?_) #[true, true, false, false, true, false, false, false, false] rfl rfl (by kernel_rfl) (fun _ _ _ h => h) (Or.inl ⟨by rfl, ?_⟩) ?_ ?_
          rotate_left
          · intro w'
            go_simp
            with_reducible rfl
          rotate_left
          · simp only [Act.put, List.setIfInBounds_toArray, List.set_cons_zero, List.set_cons_succ]
            rfl
          refine pure_ (i := 5) (N := some 100) (v := ?_) (a' := ?_) #[true, true, false, false, true, true, false, false, false] rfl rfl (by kernel_rfl) (fun _ _ _ h => h) (Or.inl ⟨by rfl, ?_⟩) ?_ ?_
          rotate_left
          · intro w'
            go_simp
            with_reducible rfl
          rotate_left
          · simp only [Act.put, List.setIfInBounds_toArray, List.set_cons_zero, List.set_cons_succ]
            rfl
          refine one_ (i := 2) (N := some 97) #[true, true, true, false, true, true, false, false, false] rfl rfl (by kernel_rfl) (by decide) (fun K hK => ?_)
          refine goes_ Try.func12 (by kernel_rfl) rfl #[.pointer (some ⟨gd, 0, none⟩), .int .i64 (j : Int)] (by rfl) rfl rfl (by (try simp only [List.map_toArray, List.map_cons, List.map_nil]); first | done | rfl) ?_
          refine (bytes_calls w.heap.size gd d (j : Int) ⟨by omega, by omega⟩ _ HDX.out).mono ?_
          rw [HPB.out]
          rintro e wy ⟨vy, rfl, h4, h5⟩
          refine ⟨vy, rfl, ?_⟩
          obtain ⟨AY, cY, rfl⟩ := Kd.R_slice h4
          have HY := Aside0.mk h4
          have HBY := Aside0.mk h5
          have HB8 := Aside0.mk (HBX.out.trans (h5.mono HBX.out.size))
          have HD8 := Aside0.mk (HDX.out.below h5)
          have HR8 := Aside0.mk (HRX.out.below h5)
          clear h4 h5
          refine hK.out _ _ HB8.out (fun hHeld => ?_)
          clear hK K hHeld
          refine stronger (S' := fun w' => Below wy.heap.size wy w') (fun w' h => HB8.out.trans (h.mono HB8.out.size)) _ _ _ _ (Below.refl _ _) ?_
          have hHeld : Below wy.heap.size wy wy := Below.refl _ _
          refine take_ (i := 3) (N := some 98) (v := .string (strOfNums pb)) (a' := ?_) #[true, true, true, true, true, true, false, false, false] rfl rfl (by kernel_rfl) (fun _ _ _ h => h) (Or.inl ⟨by rfl, ?_⟩) hHeld ?_ ?_
          · intro w' s0
            exact exec_conv (x := .tmp 97) rfl rfl (bytes_string (c := cY) (Kd.C_below (C_ofR HY.out) s0))
          rotate_left
          · simp only [Act.put, List.setIfInBounds_toArray, List.set_cons_zero, List.set_cons_succ]
            rfl
          refine one_ (i := 6) (N := some 101) #[true, true, true, true, true, true, true, false, false] rfl rfl (by kernel_rfl) (by decide) (fun K hK => ?_)
          refine goes_ Try.func23 (by kernel_rfl) rfl #[.pointer (some ⟨gr, 0, none⟩), .int .i64 (j : Int)] (by rfl) rfl rfl (by (try simp only [List.map_toArray, List.map_cons, List.map_nil]); first | done | rfl) ?_
          refine (rbytes_calls w.heap.size gr r (j : Int) _ HR8.out HSk.out.ab (by have := HSk.out.size; omega)).mono ?_
          rw [← HPR.out]
          rintro e wz ⟨vz, rfl, h4, h5⟩
          refine ⟨vz, rfl, ?_⟩
          obtain ⟨AZ9, cZ9, rfl⟩ := Kd.R_slice h4
          have HZ9 := Aside0.mk h4
          have HB9 := Aside0.mk (HB8.out.trans (h5.mono HB8.out.size))
          have HD9 := Aside0.mk (HD8.out.below h5)
          have HR9 := Aside0.mk (HR8.out.below h5)
          have HBZ := Aside0.mk h5
          clear h4 h5
          refine hK.out _ _ HBZ.out (fun hHeld => ?_)
          clear hK K HBZ
          refine one_ (i := 7) (N := some 102) #[true, true, true, true, true, true, true, true, false] rfl rfl (by kernel_rfl) (by decide) (fun K hK => ?_)
          refine value_ (by rfl) rfl (exec_conv (x := .tmp 101) rfl rfl (bytes_string (c := cZ9) (C_ofR HZ9.out))) ?_
          show K (Act.put _ (some 102) _) _
          simp only [Act.put, List.setIfInBounds_toArray, List.set_cons_zero, List.set_cons_succ]
          refine hK.out _ _ hHeld (fun hHeld => ?_)
          clear hK K 
          refine pure_ (i := 8) (N := some 103) (v := .bool false) (a' := ?_) #[true, true, true, true, true, true, true, true, true] rfl rfl (by kernel_rfl) (fun _ _ _ h => h) (Or.inl ⟨by rfl, ?_⟩) ?_ ?_
          · intro w'
            go_simp
          rotate_left
          · simp only [Act.put, List.setIfInBounds_toArray, List.set_cons_zero, List.set_cons_succ]
            rfl
          refine done_ (by kernel_rfl) ?_
          go_wp2
          go_roundw
          case rel => exact ⟨j + 1, by omega, by go_num, HD9, HR9, HB9⟩
          case measure => simp [intOf]; omega
        · have e4 : decide ((j : Int) < 12) = false := decide_eq_false (by omega)
          go_wp2_with (first
            | (go_at_call 14; refine (lives_calls _).mono ?_; rintro e w9 ⟨rfl, h4⟩; have HB9 := Aside0.mk (HBq.out.trans (h4.mono HBq.out.size)); clear h4))
          go_ret
          exact ⟨rfl, HB9.out⟩
end Go.Proofs.Ytnaegemldpfllaa.Dis
