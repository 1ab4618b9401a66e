/- The answer's disk: set, walked by hand (written by mkref.py). -/
import Derived.Test.YtnaegemldpfllaaRfC
namespace Go.Proofs.Ytnaegemldpfllaa.Dis
open Go.RowKit Go.Proofs.YtnaegemldpfllaaW.PrintWords Go.Proofs.YtnaegemldpfllaaW.PrintLast Go.Proofs.YtnaegemldpfllaaW.PrintMore Go.Maps
set_option linter.unusedVariables false
set_option linter.unusedSimpArgs false
theorem grown_below {w w1 : World} (h : w.grownBy w1 none) : Below w.heap.size w w1 := ⟨h.os, h.tape, h.output, h.size, fun k hk => h.block k hk (by simp)⟩
theorem sz_le {base g : Nat} {w : World} {c : Array Value} {xA xB xT xW : Value} {lA lT : List Int} {lB lW : List (List Int)} (h : St base w g c xA lA xB lB xT lT xW lW) : base ≤ w.heap.size := Nat.le_of_lt (Nat.lt_of_le_of_lt h.ge (blk_lt h.blk))
theorem C_ofR {α : Type} {d : Kd α} {e : Nat} {w : World} {base : Nat} {ok : Nat → Prop} {A : Option Addr} {n c : Nat} {xs : List α} (h : d.R e w base ok (.slice A n c) xs) : d.C w A n xs := by
  obtain ⟨A', c', he, _, hC⟩ := Kd.R_reads h
  injection he with h1 h2 h3
  subst h1
  rw [h2]
  exact hC
theorem reps_bs {w : World} {base : Nat} {v : Value} {s : List Int} (h : (Kd.int .u8).R 5 w base tt v s) : Reps (bsK.M w base tt) bsK.sz [s] [v] := ⟨rfl, fun j p hj => by
  have hj0 : j = 0 := by
    have := (List.getElem?_eq_some_iff.1 hj).1
    simp at this; exact this
  subst hj0
  have : p = s := by simpa using hj.symm
  subst this
  exact ⟨v, rfl, h⟩⟩
theorem bs_reads {w : World} {base : Nat} {A : Option Addr} {n c : Nat} {xs : List (List Int)} (h : bsK.R 28 w base tt (.slice A n c) xs) : ReadsRow (bsK.M w base (fun q => tt q ∧ some q ≠ (Value.slice A n c).ownBlock)) 1 w A n xs := by
  obtain ⟨h0, inner, ho, hr⟩ := h
  obtain ⟨A', c', he, hR⟩ := own_reads_row ho hr rfl
  injection he with h1 h2 h3
  subst h1
  subst h2
  exact hR
theorem M_ne {w : World} {base : Nat} {ok : Nat → Prop} {x : List Int} {cs : List Value} {v : Value} {xs : List (List Int)} (h : bsK.M w base ok x cs) (hv : bsK.R 28 w base tt v xs) : bsK.M w base (fun q => tt q ∧ some q ≠ v.ownBlock) x cs :=
  bsK.M_mono (fun k hk => ⟨trivial, fun e => by
    obtain ⟨_, _, _, q, hq, cells, hc⟩ := hk
    have hq5 : q = 5 := by simpa [bsK, Kd.slice, Kd.int, Kd.scalar] using hq
    obtain ⟨cs', hc'⟩ := own_of hv k e.symm
    rw [hc] at hc'; injection hc' with hc'; injection hc' with _ ht; rw [hq5] at ht; exact absurd ht (by decide)⟩) (bsK.M_bound h)
theorem exec_stA {o : Oper} {a : Act} {W : World} {t : TypeId} {x v : Operand} {g j : Nat} {A : Option Addr} {n c : Nat} {s0 : Value} (ho : o.op = .store t x v) (ht : (Try.prog.info? t).map (·.size) = some 1) (hx : a.eval x = .pointer (some ⟨g, j, none⟩)) (hv : a.eval v = .slice A n c) (hc : W.cell? ⟨g, j, none⟩ = some s0) (hf : W.frozen? ⟨g, j, none⟩ = false) :
    (execOp a.eval o).run Try.prog W = .ok .skip (W.setCell ⟨g, j, none⟩ (.slice A n c)) := by
  cases hq : Try.prog.info? t with
  | none => simp [hq] at ht
  | some i =>
    have hs : i.size = 1 := by simpa [hq] using ht
    unfold execOp
    rw [ho]
    simp only [hx, hv]
    simp [go_sem, hc, hf, hq, hs, sizeOf, typeInfo]
/-- What is kept of a sector is put anew, or for the first time. -/
def setR (r : Rf) (i : Int) (s : List Int) : Rf := match r.at_.findIdx? (· == i) with
  | some k => { r with b := r.b.set k s }
  | none => { r with at_ := r.at_ ++ [i], b := r.b ++ [s] }
theorem find_at {l : List Int} {i : Int} {k : Nat} (hk : k < l.length) (h : ∀ j, j < k → rd l (j : Int) ≠ i) (he : rd l (k : Int) = i) : l.findIdx? (· == i) = some k := by
  rw [List.findIdx?_eq_some_iff_getElem]
  refine ⟨hk, ?_, fun j hj => ?_⟩
  · have : rd l (k : Int) = l[k] := by simp [rd, List.getD_eq_getElem?_getD, List.getElem?_eq_getElem hk]
    rw [← this, he]; simp
  · have : rd l (j : Int) = l[j] := by simp [rd, List.getD_eq_getElem?_getD, List.getElem?_eq_getElem (show j < l.length by omega)]
    have h2 := h j hj
    rw [this] at h2
    simpa using h2
theorem find_no {l : List Int} {i : Int} (h : ∀ j, j < l.length → rd l (j : Int) ≠ i) : l.findIdx? (· == i) = none := by
  rw [List.findIdx?_eq_none_iff]
  intro x hx
  obtain ⟨j, hj, rfl⟩ := List.getElem_of_mem hx
  have h2 := h j hj
  have : rd l (j : Int) = l[j] := by simp [rd, List.getD_eq_getElem?_getD, List.getElem?_eq_getElem hj]
  rw [this] at h2
  simpa using h2
theorem bs_at {W : World} {base : Nat} {A : Option Addr} {n c : Nat} {xs : List (List Int)} (h : bsK.R 28 W base tt (.slice A n c) xs) (hn : xs.length = n) (k : Nat) (hk : k < n) :
    ∃ gb Ak ck, A = some ⟨gb, 0, none⟩ ∧ base ≤ gb ∧ (∃ cs, W.heap[gb]? = some (.cells cs 28 (0, 0))) ∧ W.cell? ⟨gb, k, none⟩ = some (.slice Ak (xs.getD k []).length ck) ∧ (Kd.int .u8).R 5 W base tt (.slice Ak (xs.getD k []).length ck) (xs.getD k []) := by
  subst hn
  obtain ⟨gb, cap, he, hb, _, hc⟩ := Kd.R_form h (by omega)
  injection he with h1 h2 h3
  subst h1
  obtain ⟨h0, inner, ho, hr⟩ := h
  have hp : xs[k]? = some (xs.getD k []) := by rw [List.getD_eq_getElem?_getD, List.getElem?_eq_getElem hk]; rfl
  obtain ⟨v, hv, hR⟩ := hr.2 k _ hp
  have hsz : bsK.sz = 1 := rfl
  have hil : inner.length = xs.length := by have := hr.1; rw [hsz, Nat.mul_one] at this; exact this
  rw [hsz, Nat.mul_one] at hv
  have hv2 : inner[k]? = some v := by
    have h5 := congrArg (fun l => l[0]?) hv
    simpa using h5
  obtain ⟨Ak, ck, rfl⟩ := Kd.R_slice hR
  refine ⟨gb, Ak, ck, rfl, hb, hc, ?_, Kd.R_mono hR (fun _ _ => trivial)⟩
  have := ho.cells (g := gb) rfl k _ hv2
  rwa [add_plain] at this
set_option maxHeartbeats 4000000 in
set_option maxRecDepth 100000 in
theorem set_calls (base g : Nat) (r : Rf) (i : Int) (Av : Option Addr) (cv : Nat) (s : List Int) (w W : World) (h : IsRf base W g r) (hB : Below base w W) (hV : Kd.R (Kd.int .u8) 5 W base tt (.slice Av s.length cv) s) (hn : r.at_.length = r.b.length) (hlen : r.at_.length ≤ 1000000) :
    Calls Try.prog 33 #[.pointer (some ⟨g, 0, none⟩), .int .i64 i, .slice Av s.length cv] W fun e w' => e = .returned (.tuple #[]) ∧ IsRf base w' g (setR r i s) ∧ Below base w w' ∧ KeepR W w' := by
  have info3 : (Try.prog.info? 3).map (fun i => (i.zero, i.size, i.bytes)) = some (some (.int .i64 0), 1, 8) := by kernel_rfl
  have INF3 := Aside0.mk info3
  have info28 : (Try.prog.info? 28).map (fun i => (i.zero, i.size, i.bytes)) = some (some (.slice none 0 0), 1, 24) := by kernel_rfl
  have INF28 := Aside0.mk info28
  clear info3 info28
  obtain ⟨vA, vB, vT, vW, h⟩ := h
  obtain ⟨AA, cA, rfl⟩ := Kd.R_slice h.rA
  obtain ⟨AB, cB, rfl⟩ := Kd.R_slice h.rB
  have c1 : W.cell? ⟨g, 1, none⟩ = some (.slice AA r.at_.length cA) := (blk_cell h.blk 1).trans rfl
  have c2 : W.cell? ⟨g, 2, none⟩ = some (.slice AB r.b.length cB) := (blk_cell h.blk 2).trans rfl
  have f1 := blk_frozen h.blk 1
  have f2 := blk_frozen h.blk 2
  obtain ⟨n, hnn⟩ : ∃ n, n = r.at_.length := ⟨_, rfl⟩
  have hnb : r.b.length = n := by omega
  have HH := Aside0.mk h
  have HBB := Aside0.mk hB
  have HVV := Aside0.mk hV
  have HLN := Aside0.mk (And.intro hlen (show r.b.length ≤ 1000000 by omega))
  rw [← hnn] at c1
  rw [hnb] at c2
  have HNA := Aside0.mk hnn
  have HNB := Aside0.mk hnb
  have hn6 : n ≤ 1000000 := by omega
  clear h hB hV hlen hn hnn hnb
  go_enter Try.func33, Try.ntmps33
  go_wp2_with fail
  go_loopw [6] (fun x wr => ∃ k : Nat, k ≤ n ∧ x = .int .i64 k ∧ wr = W ∧ Aside0 (∀ j, j < k → rd r.at_ (j : Int) ≠ i)) (fun x _ => n - (intOf x).toNat)
  case atStart => exact ⟨0, Nat.zero_le _, rfl, rfl, ⟨fun j hj => absurd hj (Nat.not_lt_zero _)⟩⟩
  case round =>
    obtain ⟨k, hk, rfl, hwr, HF⟩ := hrel
    subst hwr
    by_cases hlt : k < n
    · have e1 : decide ((k : Int) < n) = true := decide_eq_true (by omega)
      have e2 : decide (k < n) = true := decide_eq_true hlt
      obtain ⟨ad, hA, cel⟩ := Kd.at_int (C_ofR HH.out.rA) (k : Int) (by omega) (by rw [← HNA.out]; omega)
      subst hA
      simp only [Int.toNat_natCast] at cel
      obtain ⟨gb, Ak, ck, hB2, hgb, hcs, cbk, _⟩ := bs_at HH.out.rB rfl k (by rw [HNB.out]; exact hlt)
      subst hB2
      obtain ⟨csb, hcsb⟩ := hcs
      have fb := blk_frozen hcsb k
      have HCB := Aside0.mk hcsb
      have HGB := Aside0.mk hgb
      clear hcsb hgb
      by_cases hi : rd r.at_ (k : Int) = i
      · rw [hi] at cel
        have e3 : (i == i) = true := by simp
        go_wp2
        refine bodyPost_ret (results_none rfl _ _ _) rfl ?_
        obtain ⟨p1, p2⟩ := bs_put HH.out.rB rfl k (by rw [HNB.out]; exact hlt) HVV.out
        have hst := HH.out.st.growB p1 p2 (.inl rfl)
        have e : setR r i s = { r with b := r.b.set k s } := by
          unfold setR
          rw [find_at (by rw [← HNA.out]; exact hlt) HF.out hi]
        rw [e]
        exact ⟨rfl, ⟨_, _, _, _, St.at_ (r := { r with b := r.b.set k s }) hst⟩, HBB.out.setCell HGB.out _, KeepR.row p2 (fun q e => by cases e; exact ⟨_, 28, HCB.out, .inr (.inr rfl)⟩)⟩
      · have e3 : (rd r.at_ (k : Int) == i) = false := by simp [hi]
        go_wp2
        go_roundw
        case rel => exact ⟨k + 1, by omega, by go_num, by trivial, ⟨fun j hj => by
          by_cases hjk : j = k
          · rw [hjk]; exact hi
          · exact HF.out j (by omega)⟩⟩
        case measure => simp [intOf]; omega
    · obtain rfl : k = n := by omega
      have e1 : decide ((k : Int) < k) = false := decide_eq_false (by omega)
      have hno := Aside0.mk (find_no (l := r.at_) (i := i) (by rw [← HNA.out]; exact HF.out))
      go_upto_region 5 with fail
      have hst0 := HH.out.st.below (below_drew (Below.refl wr.heap.size wr))
      rw [← HNA.out, HNB.out] at hst0
      have HS := Aside0.mk hst0
      clear hst0
      have HB := Aside0.mk (HBB.out.trans (below_drew (Below.refl base wr)))
      have HK := Aside0.mk (KeepR.of_below (below_drew (Below.refl wr.heap.size wr)))
      have HV := Aside0.mk (Kd.R_drew HVV.out)
      refine start_ (n := 22) (S := fun w' => w'.cell? ⟨g, 1, none⟩ = some (.slice AA k cA) ∧ w'.cell? ⟨g, 2, none⟩ = some (.slice AB k cB)) (ds := [18, 21]) #[false, false, false, false, false, false, false, false, false, false, false, false, false, false, false, false, false, false, false, false, false, false] (by kernel_rfl) rfl rfl ⟨c1, c2⟩ (fun hHeld => ?_)
      refine pure_ (i := 0) (N := some 32) (v := ?_) (a' := ?_) #[true, false, false, false, false, false, false, false, false, false, false, false, false, false, false, false, false, false, false, false, false, false] rfl rfl (by kernel_rfl) (fun _ _ _ h => h) (Or.inl ⟨by rfl, ?_⟩) ?_ ?_
      rotate_left
      · intro w'
        go_simp
        with_reducible rfl
      rotate_left
      · simp only [Act.put, List.setIfInBounds_toArray, List.set_cons_zero, List.set_cons_succ]
        rfl
      refine pure_ (i := 1) (N := some 33) (v := ?_) (a' := ?_) #[true, true, false, false, false, false, false, false, false, false, false, false, false, false, false, false, false, false, false, false, false, false] rfl rfl (by kernel_rfl) (fun _ _ _ h => h) (Or.inl ⟨by rfl, ?_⟩) ?_ ?_
      rotate_left
      · intro w'
        go_simp
        with_reducible rfl
      rotate_left
      · simp only [Act.put, List.setIfInBounds_toArray, List.set_cons_zero, List.set_cons_succ]
        rfl
      refine pure_ (i := 2) (N := some 34) (v := ?_) (a' := ?_) #[true, true, true, false, false, false, false, false, false, false, false, false, false, false, false, false, false, false, false, false, false, false] rfl rfl (by kernel_rfl) (fun _ _ _ h => h) (Or.inl ⟨by rfl, ?_⟩) ?_ ?_
      rotate_left
      · intro w'
        go_simp
        with_reducible rfl
      rotate_left
      · simp only [Act.put, List.setIfInBounds_toArray, List.set_cons_zero, List.set_cons_succ]
        rfl
      refine pure_ (i := 3) (N := some 35) (v := ?_) (a' := ?_) #[true, true, true, true, false, false, false, false, false, false, false, false, false, false, false, false, false, false, false, false, false, false] rfl rfl (by kernel_rfl) (fun _ _ _ h => h) (Or.inl ⟨by rfl, ?_⟩) ?_ ?_
      rotate_left
      · intro w'
        go_simp
        with_reducible rfl
      rotate_left
      · simp only [Act.put, List.setIfInBounds_toArray, List.set_cons_zero, List.set_cons_succ]
        rfl
      refine pure_ (i := 4) (N := some 36) (v := ?_) (a' := ?_) #[true, true, true, true, true, false, false, false, false, false, false, false, false, false, false, false, false, false, false, false, false, false] rfl rfl (by kernel_rfl) (fun _ _ _ h => h) (Or.inl ⟨by rfl, ?_⟩) ?_ ?_
      rotate_left
      · intro w'
        go_simp
        with_reducible rfl
      rotate_left
      · simp only [Act.put, List.setIfInBounds_toArray, List.set_cons_zero, List.set_cons_succ]
        rfl
      refine take_ (i := 5) (N := some 37) (v := ?_) (a' := ?_) #[true, true, true, true, true, true, false, false, false, false, false, false, false, false, false, false, false, false, false, false, false, false] rfl rfl (by kernel_rfl) (fun _ _ _ h => h) (Or.inl ⟨by rfl, ?_⟩) hHeld ?_ ?_
      rotate_left
      · rintro w' ⟨s0, s1⟩
        go_simp
        with_reducible rfl
      rotate_left
      · simp only [Act.put, List.setIfInBounds_toArray, List.set_cons_zero, List.set_cons_succ]
        rfl
      refine pure_ (i := 6) (N := some 38) (v := ?_) (a' := ?_) #[true, true, true, true, true, true, true, false, false, false, false, false, false, false, false, false, false, false, false, false, false, false] rfl rfl (by kernel_rfl) (fun _ _ _ h => h) (Or.inl ⟨by rfl, ?_⟩) ?_ ?_
      rotate_left
      · intro w'
        go_simp
        with_reducible rfl
      rotate_left
      · simp only [Act.put, List.setIfInBounds_toArray, List.set_cons_zero, List.set_cons_succ]
        rfl
      refine pure_ (i := 9) (N := some 41) (v := ?_) (a' := ?_) #[true, true, true, true, true, true, true, false, false, true, false, false, false, false, false, false, false, false, false, false, false, false] rfl rfl (by kernel_rfl) (fun _ _ _ h => h) (Or.inl ⟨by rfl, ?_⟩) ?_ ?_
      rotate_left
      · intro w'
        go_simp
        with_reducible rfl
      rotate_left
      · simp only [Act.put, List.setIfInBounds_toArray, List.set_cons_zero, List.set_cons_succ]
        rfl
      refine pure_ (i := 10) (N := some 42) (v := ?_) (a' := ?_) #[true, true, true, true, true, true, true, false, false, true, true, false, false, false, false, false, false, false, false, false, false, false] rfl rfl (by kernel_rfl) (fun _ _ _ h => h) (Or.inl ⟨by rfl, ?_⟩) ?_ ?_
      rotate_left
      · intro w'
        go_simp
        with_reducible rfl
      rotate_left
      · simp only [Act.put, List.setIfInBounds_toArray, List.set_cons_zero, List.set_cons_succ]
        rfl
      refine pure_ (i := 11) (N := some 43) (v := ?_) (a' := ?_) #[true, true, true, true, true, true, true, false, false, true, true, true, false, false, false, false, false, false, false, false, false, false] rfl rfl (by kernel_rfl) (fun _ _ _ h => h) (Or.inl ⟨by rfl, ?_⟩) ?_ ?_
      rotate_left
      · intro w'
        go_simp
        with_reducible rfl
      rotate_left
      · simp only [Act.put, List.setIfInBounds_toArray, List.set_cons_zero, List.set_cons_succ]
        rfl
      refine take_ (i := 12) (N := some 44) (v := ?_) (a' := ?_) #[true, true, true, true, true, true, true, false, false, true, true, true, true, false, false, false, false, false, false, false, false, false] rfl rfl (by kernel_rfl) (fun _ _ _ h => h) (Or.inl ⟨by rfl, ?_⟩) hHeld ?_ ?_
      rotate_left
      · rintro w' ⟨s0, s1⟩
        go_simp
        with_reducible rfl
      rotate_left
      · simp only [Act.put, List.setIfInBounds_toArray, List.set_cons_zero, List.set_cons_succ]
        rfl
      refine pure_ (i := 13) (N := some 45) (v := ?_) (a' := ?_) #[true, true, true, true, true, true, true, false, false, true, true, true, true, true, false, false, false, false, false, false, false, false] rfl rfl (by kernel_rfl) (fun _ _ _ h => h) (Or.inl ⟨by rfl, ?_⟩) ?_ ?_
      rotate_left
      · intro w'
        go_simp
        with_reducible rfl
      rotate_left
      · simp only [Act.put, List.setIfInBounds_toArray, List.set_cons_zero, List.set_cons_succ]
        rfl
      refine join_ (σ := Value × Value × Value × Value) 6 #[true, true, true, true, true, true, true, true, true, true, true, true, true, true, true, true, false, false, false, false, false, false] (fun s_ => [(39, s_.1), (40, s_.2.1), (46, s_.2.2.1), (47, s_.2.2.2)]) (fun s_ w' => St base w' g (rcells r (.slice AA k cA) (.slice AB k cB) vT vW) s_.2.1 (r.at_ ++ [i]) s_.2.2.2 (r.b ++ [s]) vT r.to_ vW r.ws ∧ Below base w w' ∧ KeepR wr w') ?_ ?_
      rotate_left
      · intro hJ
        refine two_ (i := 7) (j := 14) (Ni := some 39) (Nj := some 46) #[true, true, true, true, true, true, true, true, false, true, true, true, true, true, false, false, false, false, false, false, false, false] #[true, true, true, true, true, true, true, false, false, true, true, true, true, true, true, false, false, false, false, false, false, false] rfl rfl rfl rfl (by kernel_rfl) (by decide) (by decide) (fun K hK => ?_) (fun K hK => ?_)
        · refine Kd.R_lit_step aKi (w0 := w) base 3 (by rfl) (N := 39) rfl (xs := [i]) (inner := [.int .i64 i]) (ok := tt) (okp := tt) ?hr1 ?hrep1 (fun _ h => h) trivial HB.out ?hS1 (by simp) ?_
          case hr1 => first | (go_simp; done) | (go_simp; rfl)
          case hrep1 => exact Kd.reps_scalar (enc := Value.int .i64) [i]
          case hS1 => exact sz_le HS.out
          intro vI w33_1 ho hb hg _
          have bl := grown_below hg
          obtain ⟨AI, cI, rfl⟩ := Kd.R_slice ho
          have HI := Aside0.mk ho
          have HS' := Aside0.mk (HS.out.below bl)
          have HB' := Aside0.mk hb
          have HK' := Aside0.mk (HK.out.trans (KeepR.of_below bl))
          have HV' := Aside0.mk (Kd.R_below HV.out bl)
          clear HS HB HK HV bl hb hg ho
          have HS := HS'
          have HB := HB'
          have HK := HK'
          have HV := HV'
          clear HS' HB' HK' HV'
          show K (Act.put _ (some 39) _) _
          simp only [Act.put, List.setIfInBounds_toArray, List.set_cons_zero, List.set_cons_succ]
          refine hK.out _ _ ⟨(blk_cell HS.out.blk 1).trans rfl, (blk_cell HS.out.blk 2).trans rfl⟩ (fun hHeld => ?_)
          clear hK K
          refine two_ (i := 8) (j := 14) (Ni := some 40) (Nj := some 46) #[true, true, true, true, true, true, true, true, true, true, true, true, true, true, false, false, false, false, false, false, false, false] #[true, true, true, true, true, true, true, true, false, true, true, true, true, true, true, false, false, false, false, false, false, false] rfl rfl rfl rfl (by kernel_rfl) (by decide) (by decide) (fun K hK => ?_) (fun K hK => ?_)
          · refine Kd.R_append_rows_step aKi (w0 := w) base (by rfl) (.tmp 37) (.tmp 39) 48 3 (.int .i64 0) 8 rfl Try.underlying48 INF3.out rfl (by decide) (by decide) (.slice AA k cA) r.at_ [i] _ _ _ tt (fun _ => False) rfl rfl HS.out.rA (C_ofR HI.out) (fun _ _ h => h) (fun _ h => h.elim) (fun _ _ => trivial) HB.out (sz_le HS.out) ?hl2 ?_
            case hl2 => have := HLN.out; simp; omega
            intro v40 w33_2 ho hb hg hat
            have HS' := Aside0.mk (HS.out.growA ho hg hat)
            have HB' := Aside0.mk hb
            have HK' := Aside0.mk (HK.out.trans (KeepR.row hg (fun q e => by obtain ⟨cs, hc⟩ := own_of HS.out.rA q e; exact ⟨cs, 3, hc, .inr (.inl rfl)⟩)))
            have HV' := Aside0.mk (R_side HV.out (iE 3) hg (fun q hq => ⟨own_of HS.out.rA q hq, fun e => own_types HV.out HS.out.rA (by decide) q e hq⟩))
            clear HS HB HK HV hb hg ho hat
            have HS := HS'
            have HB := HB'
            have HK := HK'
            have HV := HV'
            clear HS' HB' HK' HV'
            show K (Act.put _ (some 40) _) _
            simp only [Act.put, List.setIfInBounds_toArray, List.set_cons_zero, List.set_cons_succ]
            refine hK.out _ _ ⟨(blk_cell HS.out.blk 1).trans rfl, (blk_cell HS.out.blk 2).trans rfl⟩ (fun hHeld => ?_)
            clear hK K
            refine one_ (i := 14) (N := some 46) #[true, true, true, true, true, true, true, true, true, true, true, true, true, true, true, false, false, false, false, false, false, false] rfl rfl (by kernel_rfl) (by decide) (fun K hK => ?_)
            refine Kd.R_lit_step bsK (w0 := w) base 28 (by rfl) (N := 46) rfl (xs := [s]) (inner := [.slice Av s.length cv]) (ok := tt) (okp := tt) ?hr3 ?hrep3 (fun _ h => h) trivial HB.out ?hS3 (by simp) ?_
            case hr3 => first | (go_simp; done) | (go_simp; rfl)
            case hrep3 => exact reps_bs HV.out
            case hS3 => exact sz_le HS.out
            intro vM w33_3 ho hb hg _
            have bl := grown_below hg
            obtain ⟨AM, cM, rfl⟩ := Kd.R_slice ho
            have HM := Aside0.mk ho
            have HS' := Aside0.mk (HS.out.below bl)
            have HB' := Aside0.mk hb
            have HK' := Aside0.mk (HK.out.trans (KeepR.of_below bl))
            clear HS HB HK  bl hb hg ho
            have HS := HS'
            have HB := HB'
            have HK := HK'
            clear HS' HB' HK' 
            show K (Act.put _ (some 46) _) _
            simp only [Act.put, List.setIfInBounds_toArray, List.set_cons_zero, List.set_cons_succ]
            refine hK.out _ _ ⟨(blk_cell HS.out.blk 1).trans rfl, (blk_cell HS.out.blk 2).trans rfl⟩ (fun hHeld => ?_)
            clear hK K
            refine one_ (i := 15) (N := some 47) #[true, true, true, true, true, true, true, true, true, true, true, true, true, true, true, true, false, false, false, false, false, false] rfl rfl (by kernel_rfl) (by decide) (fun K hK => ?_)
            refine Kd.R_append_rows_step bsK (w0 := w) base (by rfl) (.tmp 44) (.tmp 46) 49 28 (.slice none 0 0) 24 rfl Try.underlying49 INF28.out rfl (by decide) (by decide) (.slice AB k cB) r.b [s] _ _ _ tt (fun q => tt q ∧ some q ≠ (Value.slice AB k cB).ownBlock) rfl rfl HS.out.rB (bs_reads HM.out) (fun x c h => M_ne h HS.out.rB) (fun q h => ⟨trivial, h.2⟩) (fun _ _ => trivial) HB.out (sz_le HS.out) ?hl4 ?_
            case hl4 => have := HLN.out; simp; omega
            intro v47 w33_4 ho hb hg hat
            have HS' := Aside0.mk (HS.out.growB ho hg hat)
            have HB' := Aside0.mk hb
            have HK' := Aside0.mk (HK.out.trans (KeepR.row hg (fun q e => by obtain ⟨cs, hc⟩ := own_of HS.out.rB q e; exact ⟨cs, 28, hc, .inr (.inr rfl)⟩)))
            clear HS HB HK  hb hg ho hat
            have HS := HS'
            have HB := HB'
            have HK := HK'
            clear HS' HB' HK' 
            show K (Act.put _ (some 47) _) _
            simp only [Act.put, List.setIfInBounds_toArray, List.set_cons_zero, List.set_cons_succ]
            refine hK.out _ _ ⟨(blk_cell HS.out.blk 1).trans rfl, (blk_cell HS.out.blk 2).trans rfl⟩ (fun hHeld => ?_)
            clear hK K
            exact hJ (_, _, _, _) _ ⟨HS.out, HB.out, HK.out⟩
          · refine Kd.R_lit_step bsK (w0 := w) base 28 (by rfl) (N := 46) rfl (xs := [s]) (inner := [.slice Av s.length cv]) (ok := tt) (okp := tt) ?hr5 ?hrep5 (fun _ h => h) trivial HB.out ?hS5 (by simp) ?_
            case hr5 => first | (go_simp; done) | (go_simp; rfl)
            case hrep5 => exact reps_bs HV.out
            case hS5 => exact sz_le HS.out
            intro vM w33_5 ho hb hg _
            have bl := grown_below hg
            obtain ⟨AM, cM, rfl⟩ := Kd.R_slice ho
            have HM := Aside0.mk ho
            have HS' := Aside0.mk (HS.out.below bl)
            have HB' := Aside0.mk hb
            have HK' := Aside0.mk (HK.out.trans (KeepR.of_below bl))
            have HI' := Aside0.mk (Kd.R_below HI.out bl)
            clear HS HB HK HI bl hb hg ho
            have HS := HS'
            have HB := HB'
            have HK := HK'
            have HI := HI'
            clear HS' HB' HK' HI'
            show K (Act.put _ (some 46) _) _
            simp only [Act.put, List.setIfInBounds_toArray, List.set_cons_zero, List.set_cons_succ]
            refine hK.out _ _ ⟨(blk_cell HS.out.blk 1).trans rfl, (blk_cell HS.out.blk 2).trans rfl⟩ (fun hHeld => ?_)
            clear hK K
            refine one_ (i := 8) (N := some 40) #[true, true, true, true, true, true, true, true, true, true, true, true, true, true, true, false, false, false, false, false, false, false] rfl rfl (by kernel_rfl) (by decide) (fun K hK => ?_)
            refine Kd.R_append_rows_step aKi (w0 := w) base (by rfl) (.tmp 37) (.tmp 39) 48 3 (.int .i64 0) 8 rfl Try.underlying48 INF3.out rfl (by decide) (by decide) (.slice AA k cA) r.at_ [i] _ _ _ tt (fun _ => False) rfl rfl HS.out.rA (C_ofR HI.out) (fun _ _ h => h) (fun _ h => h.elim) (fun _ _ => trivial) HB.out (sz_le HS.out) ?hl6 ?_
            case hl6 => have := HLN.out; simp; omega
            intro v40 w33_6 ho hb hg hat
            have HS' := Aside0.mk (HS.out.growA ho hg hat)
            have HB' := Aside0.mk hb
            have HK' := Aside0.mk (HK.out.trans (KeepR.row hg (fun q e => by obtain ⟨cs, hc⟩ := own_of HS.out.rA q e; exact ⟨cs, 3, hc, .inr (.inl rfl)⟩)))
            have HM' := Aside0.mk (R_side HM.out (bE (by decide)) hg (fun q hq => ⟨own_of HS.out.rA q hq, fun e => own_types HM.out HS.out.rA (by decide) q e hq⟩))
            clear HS HB HK HM hb hg ho hat
            have HS := HS'
            have HB := HB'
            have HK := HK'
            have HM := HM'
            clear HS' HB' HK' HM'
            show K (Act.put _ (some 40) _) _
            simp only [Act.put, List.setIfInBounds_toArray, List.set_cons_zero, List.set_cons_succ]
            refine hK.out _ _ ⟨(blk_cell HS.out.blk 1).trans rfl, (blk_cell HS.out.blk 2).trans rfl⟩ (fun hHeld => ?_)
            clear hK K
            refine one_ (i := 15) (N := some 47) #[true, true, true, true, true, true, true, true, true, true, true, true, true, true, true, true, false, false, false, false, false, false] rfl rfl (by kernel_rfl) (by decide) (fun K hK => ?_)
            refine Kd.R_append_rows_step bsK (w0 := w) base (by rfl) (.tmp 44) (.tmp 46) 49 28 (.slice none 0 0) 24 rfl Try.underlying49 INF28.out rfl (by decide) (by decide) (.slice AB k cB) r.b [s] _ _ _ tt (fun q => tt q ∧ some q ≠ (Value.slice AB k cB).ownBlock) rfl rfl HS.out.rB (bs_reads HM.out) (fun x c h => M_ne h HS.out.rB) (fun q h => ⟨trivial, h.2⟩) (fun _ _ => trivial) HB.out (sz_le HS.out) ?hl7 ?_
            case hl7 => have := HLN.out; simp; omega
            intro v47 w33_7 ho hb hg hat
            have HS' := Aside0.mk (HS.out.growB ho hg hat)
            have HB' := Aside0.mk hb
            have HK' := Aside0.mk (HK.out.trans (KeepR.row hg (fun q e => by obtain ⟨cs, hc⟩ := own_of HS.out.rB q e; exact ⟨cs, 28, hc, .inr (.inr rfl)⟩)))
            clear HS HB HK  hb hg ho hat
            have HS := HS'
            have HB := HB'
            have HK := HK'
            clear HS' HB' HK' 
            show K (Act.put _ (some 47) _) _
            simp only [Act.put, List.setIfInBounds_toArray, List.set_cons_zero, List.set_cons_succ]
            refine hK.out _ _ ⟨(blk_cell HS.out.blk 1).trans rfl, (blk_cell HS.out.blk 2).trans rfl⟩ (fun hHeld => ?_)
            clear hK K
            exact hJ (_, _, _, _) _ ⟨HS.out, HB.out, HK.out⟩
        · refine Kd.R_lit_step bsK (w0 := w) base 28 (by rfl) (N := 46) rfl (xs := [s]) (inner := [.slice Av s.length cv]) (ok := tt) (okp := tt) ?hr8 ?hrep8 (fun _ h => h) trivial HB.out ?hS8 (by simp) ?_
          case hr8 => first | (go_simp; done) | (go_simp; rfl)
          case hrep8 => exact reps_bs HV.out
          case hS8 => exact sz_le HS.out
          intro vM w33_8 ho hb hg _
          have bl := grown_below hg
          obtain ⟨AM, cM, rfl⟩ := Kd.R_slice ho
          have HM := Aside0.mk ho
          have HS' := Aside0.mk (HS.out.below bl)
          have HB' := Aside0.mk hb
          have HK' := Aside0.mk (HK.out.trans (KeepR.of_below bl))
          clear HS HB HK  bl hb hg ho
          have HS := HS'
          have HB := HB'
          have HK := HK'
          clear HS' HB' HK' 
          show K (Act.put _ (some 46) _) _
          simp only [Act.put, List.setIfInBounds_toArray, List.set_cons_zero, List.set_cons_succ]
          refine hK.out _ _ ⟨(blk_cell HS.out.blk 1).trans rfl, (blk_cell HS.out.blk 2).trans rfl⟩ (fun hHeld => ?_)
          clear hK K
          refine one_ (i := 7) (N := some 39) #[true, true, true, true, true, true, true, true, false, true, true, true, true, true, true, false, false, false, false, false, false, false] rfl rfl (by kernel_rfl) (by decide) (fun K hK => ?_)
          refine Kd.R_lit_step aKi (w0 := w) base 3 (by rfl) (N := 39) rfl (xs := [i]) (inner := [.int .i64 i]) (ok := tt) (okp := tt) ?hr9 ?hrep9 (fun _ h => h) trivial HB.out ?hS9 (by simp) ?_
          case hr9 => first | (go_simp; done) | (go_simp; rfl)
          case hrep9 => exact Kd.reps_scalar (enc := Value.int .i64) [i]
          case hS9 => exact sz_le HS.out
          intro vI w33_9 ho hb hg _
          have bl := grown_below hg
          obtain ⟨AI, cI, rfl⟩ := Kd.R_slice ho
          have HI := Aside0.mk ho
          have HS' := Aside0.mk (HS.out.below bl)
          have HB' := Aside0.mk hb
          have HK' := Aside0.mk (HK.out.trans (KeepR.of_below bl))
          have HM' := Aside0.mk (Kd.R_below HM.out bl)
          clear HS HB HK HM bl hb hg ho
          have HS := HS'
          have HB := HB'
          have HK := HK'
          have HM := HM'
          clear HS' HB' HK' HM'
          show K (Act.put _ (some 39) _) _
          simp only [Act.put, List.setIfInBounds_toArray, List.set_cons_zero, List.set_cons_succ]
          refine hK.out _ _ ⟨(blk_cell HS.out.blk 1).trans rfl, (blk_cell HS.out.blk 2).trans rfl⟩ (fun hHeld => ?_)
          clear hK K
          refine one_ (i := 8) (N := some 40) #[true, true, true, true, true, true, true, true, true, true, true, true, true, true, true, false, false, false, false, false, false, false] rfl rfl (by kernel_rfl) (by decide) (fun K hK => ?_)
          refine Kd.R_append_rows_step aKi (w0 := w) base (by rfl) (.tmp 37) (.tmp 39) 48 3 (.int .i64 0) 8 rfl Try.underlying48 INF3.out rfl (by decide) (by decide) (.slice AA k cA) r.at_ [i] _ _ _ tt (fun _ => False) rfl rfl HS.out.rA (C_ofR HI.out) (fun _ _ h => h) (fun _ h => h.elim) (fun _ _ => trivial) HB.out (sz_le HS.out) ?hl10 ?_
          case hl10 => have := HLN.out; simp; omega
          intro v40 w33_10 ho hb hg hat
          have HS' := Aside0.mk (HS.out.growA ho hg hat)
          have HB' := Aside0.mk hb
          have HK' := Aside0.mk (HK.out.trans (KeepR.row hg (fun q e => by obtain ⟨cs, hc⟩ := own_of HS.out.rA q e; exact ⟨cs, 3, hc, .inr (.inl rfl)⟩)))
          have HM' := Aside0.mk (R_side HM.out (bE (by decide)) hg (fun q hq => ⟨own_of HS.out.rA q hq, fun e => own_types HM.out HS.out.rA (by decide) q e hq⟩))
          clear HS HB HK HM hb hg ho hat
          have HS := HS'
          have HB := HB'
          have HK := HK'
          have HM := HM'
          clear HS' HB' HK' HM'
          show K (Act.put _ (some 40) _) _
          simp only [Act.put, List.setIfInBounds_toArray, List.set_cons_zero, List.set_cons_succ]
          refine hK.out _ _ ⟨(blk_cell HS.out.blk 1).trans rfl, (blk_cell HS.out.blk 2).trans rfl⟩ (fun hHeld => ?_)
          clear hK K
          refine one_ (i := 15) (N := some 47) #[true, true, true, true, true, true, true, true, true, true, true, true, true, true, true, true, false, false, false, false, false, false] rfl rfl (by kernel_rfl) (by decide) (fun K hK => ?_)
          refine Kd.R_append_rows_step bsK (w0 := w) base (by rfl) (.tmp 44) (.tmp 46) 49 28 (.slice none 0 0) 24 rfl Try.underlying49 INF28.out rfl (by decide) (by decide) (.slice AB k cB) r.b [s] _ _ _ tt (fun q => tt q ∧ some q ≠ (Value.slice AB k cB).ownBlock) rfl rfl HS.out.rB (bs_reads HM.out) (fun x c h => M_ne h HS.out.rB) (fun q h => ⟨trivial, h.2⟩) (fun _ _ => trivial) HB.out (sz_le HS.out) ?hl11 ?_
          case hl11 => have := HLN.out; simp; omega
          intro v47 w33_11 ho hb hg hat
          have HS' := Aside0.mk (HS.out.growB ho hg hat)
          have HB' := Aside0.mk hb
          have HK' := Aside0.mk (HK.out.trans (KeepR.row hg (fun q e => by obtain ⟨cs, hc⟩ := own_of HS.out.rB q e; exact ⟨cs, 28, hc, .inr (.inr rfl)⟩)))
          clear HS HB HK  hb hg ho hat
          have HS := HS'
          have HB := HB'
          have HK := HK'
          clear HS' HB' HK' 
          show K (Act.put _ (some 47) _) _
          simp only [Act.put, List.setIfInBounds_toArray, List.set_cons_zero, List.set_cons_succ]
          refine hK.out _ _ ⟨(blk_cell HS.out.blk 1).trans rfl, (blk_cell HS.out.blk 2).trans rfl⟩ (fun hHeld => ?_)
          clear hK K
          exact hJ (_, _, _, _) _ ⟨HS.out, HB.out, HK.out⟩
      · rintro ⟨v39, v40, v46, v47⟩ w9 ⟨hS9, hB9, hK9⟩
        obtain ⟨A40, c40, rfl⟩ := Kd.R_slice hS9.rA
        obtain ⟨A47, c47, rfl⟩ := Kd.R_slice hS9.rB
        have HS := Aside0.mk hS9
        have HB := Aside0.mk hB9
        have HK := Aside0.mk hK9
        clear hS9 hB9 hK9
        refine norm_ (a' := ?_) ?_ ?_
        rotate_left
        · simp only [putAll, Act.put, List.setIfInBounds_toArray, List.set_cons_zero, List.set_cons_succ]
          rfl
        refine pure_ (i := 16) (N := some 48) (v := ?_) (a' := ?_) #[true, true, true, true, true, true, true, true, true, true, true, true, true, true, true, true, true, false, false, false, false, false] rfl rfl (by kernel_rfl) (fun _ _ _ h => h) (Or.inl ⟨by rfl, ?_⟩) ?_ ?_
        rotate_left
        · intro w'
          go_simp
          with_reducible rfl
        rotate_left
        · simp only [Act.put, List.setIfInBounds_toArray, List.set_cons_zero, List.set_cons_succ]
          rfl
        refine pure_ (i := 17) (N := some 49) (v := ?_) (a' := ?_) #[true, true, true, true, true, true, true, true, true, true, true, true, true, true, true, true, true, true, false, false, false, false] rfl rfl (by kernel_rfl) (fun _ _ _ h => h) (Or.inl ⟨by rfl, ?_⟩) ?_ ?_
        rotate_left
        · intro w'
          go_simp
          with_reducible rfl
        rotate_left
        · simp only [Act.put, List.setIfInBounds_toArray, List.set_cons_zero, List.set_cons_succ]
          rfl
        refine last_ (i := 18) (N := none) #[true, true, true, true, true, true, true, true, true, true, true, true, true, true, true, true, true, true, true, false, false, false] rfl rfl (by kernel_rfl) (by decide) (fun K hK => ?_)
        refine skip_ (by rfl) rfl (exec_stA (x := .tmp 49) (v := .tmp 40) rfl (by kernel_rfl) rfl rfl ((blk_cell HS.out.blk 1).trans rfl) (blk_frozen HS.out.blk 1)) ?_
        have HS' := Aside0.mk (HS.out.put 1 (.slice A40 (r.at_ ++ [i]).length c40))
        have HB' := Aside0.mk (HB.out.setCell (p := ⟨g, 1, none⟩) HS.out.ge (.slice A40 (r.at_ ++ [i]).length c40))
        have HK' := Aside0.mk (HK.out.set HS.out.blk (j := 1) (.slice A40 (r.at_ ++ [i]).length c40))
        clear HS HB HK
        have HS := HS'
        have HB := HB'
        have HK := HK'
        clear HS' HB' HK'
        refine hK.out _ _ ?_
        clear hK K
        refine pure_ (i := 19) (N := some 50) (v := ?_) (a' := ?_) #[true, true, true, true, true, true, true, true, true, true, true, true, true, true, true, true, true, true, true, true, false, false] rfl rfl (by kernel_rfl) (fun _ _ _ h => h) (Or.inl ⟨by rfl, ?_⟩) ?_ ?_
        rotate_left
        · intro w'
          go_simp
          with_reducible rfl
        rotate_left
        · simp only [Act.put, List.setIfInBounds_toArray, List.set_cons_zero, List.set_cons_succ]
          rfl
        refine pure_ (i := 20) (N := some 51) (v := ?_) (a' := ?_) #[true, true, true, true, true, true, true, true, true, true, true, true, true, true, true, true, true, true, true, true, true, false] rfl rfl (by kernel_rfl) (fun _ _ _ h => h) (Or.inl ⟨by rfl, ?_⟩) ?_ ?_
        rotate_left
        · intro w'
          go_simp
          with_reducible rfl
        rotate_left
        · simp only [Act.put, List.setIfInBounds_toArray, List.set_cons_zero, List.set_cons_succ]
          rfl
        refine last_ (i := 21) (N := none) #[true, true, true, true, true, true, true, true, true, true, true, true, true, true, true, true, true, true, true, true, true, true] rfl rfl (by kernel_rfl) (by decide) (fun K hK => ?_)
        refine skip_ (by rfl) rfl (exec_stA (x := .tmp 51) (v := .tmp 47) rfl (by kernel_rfl) rfl rfl ((blk_cell HS.out.blk 2).trans rfl) (blk_frozen HS.out.blk 2)) ?_
        have HS' := Aside0.mk (HS.out.put 2 (.slice A47 (r.b ++ [s]).length c47))
        have HB' := Aside0.mk (HB.out.setCell (p := ⟨g, 2, none⟩) HS.out.ge (.slice A47 (r.b ++ [s]).length c47))
        have HK' := Aside0.mk (HK.out.set HS.out.blk (j := 2) (.slice A47 (r.b ++ [s]).length c47))
        clear HS HB HK
        have HS := HS'
        have HB := HB'
        have HK := HK'
        clear HS' HB' HK'
        refine hK.out _ _ ?_
        clear hK K
        refine done_ (by kernel_rfl) ?_
        go_wp2
        go_end0
        have e : setR r i s = { r with at_ := r.at_ ++ [i], b := r.b ++ [s] } := by
          unfold setR
          rw [hno.out]
        rw [e]
        have HSf := HS.out
        have HBf := HB.out
        have HKf := HK.out
        simp only [List.length_append, List.length_cons, List.length_nil, Nat.zero_add] at HSf HBf HKf
        exact ⟨rfl, ⟨_, _, _, _, St.at_ (r := { r with at_ := r.at_ ++ [i], b := r.b ++ [s] }) HSf⟩, HBf, HKf⟩
end Go.Proofs.Ytnaegemldpfllaa.Dis
