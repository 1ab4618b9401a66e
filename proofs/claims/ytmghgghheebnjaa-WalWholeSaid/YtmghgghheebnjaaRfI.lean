/- disk.Load, walked by hand (written by mkref.py). -/
import Derived.Test.YtmghgghheebnjaaDisR
namespace Go.Proofs.Ytmghgghheebnjaa.Dis
open Go.RowKit Go.Proofs.YtmghgghheebnjaaW.PrintWords Go.Proofs.YtmghgghheebnjaaW.PrintLast Go.Proofs.YtmghgghheebnjaaW.PrintMore Go.Maps
set_option linter.unusedVariables false
set_option linter.unusedSimpArgs false
def piece (img : List Int) (k : Nat) : List Int := (img.drop (512 * k)).take 512
theorem piece_len (img : List Int) (k : Nat) : (piece img k).length = min 512 (img.length - 512 * k) := by unfold piece; rw [List.length_take, List.length_drop]
def loadN (n : Int) (len : Nat) : Nat := min (clampN n).toNat ((len + 511) / 512)
theorem clamp_bounds (n : Int) : 0 ≤ clampN n ∧ clampN n ≤ 4096 := by unfold clampN; omega
def loadDTo (n : Int) (img : List Int) : Nat → D
  | 0 => newD n
  | k + 1 => { loadDTo n img k with fast := upd (loadDTo n img k).fast ((k : Int), pad (piece img k)), cnt := (loadDTo n img k).cnt + 1 }
theorem loadDTo_same (n : Int) (img : List Int) : ∀ k, (loadDTo n img k).n = clampN n ∧ (loadDTo n img k).since = [] ∧ (loadDTo n img k).left = -1 ∧ (loadDTo n img k).dead = false ∧ (loadDTo n img k).cnt = k
  | 0 => ⟨rfl, rfl, rfl, rfl, rfl⟩
  | k + 1 => by
    obtain ⟨h1, h2, h3, h4, h5⟩ := loadDTo_same n img k
    exact ⟨h1, h2, h3, h4, by show _ + 1 = _; rw [h5]⟩
theorem sec_cells {w : World} {g : Nat} {s : List Int} (h : w.heap[g]? = some (.cells (secC s).toArray 94 (0, 0))) : ∀ j v, (secC s)[j]? = some v → w.cell? ((⟨g, 0, none⟩ : Addr).add j) = some v := fun j v hv => by
  have hadd : (⟨g, 0, none⟩ : Addr).add j = ⟨g, j, none⟩ := by unfold Addr.add; split <;> simp_all
  rw [hadd, blk_cell h j]
  simpa using hv
theorem sec_copy {w : World} {g : Nat} {b : List Int} (hb : b.length ≤ 512) (h : Hid (w.heap[g]? = some (.cells (splice (secC zeros) 0 (nums .u8 b)).toArray 94 (0, 0)))) : w.heap[g]? = some (.cells (secC (pad b)).toArray 94 (0, 0)) := by
  have h1 := h.out
  have e : splice (secC zeros) 0 (nums .u8 b) = secC (pad b) := by
    unfold splice secC pad
    rw [nums_append]
    simp only [List.take_zero, List.nil_append, nums, List.length_map]
    congr 1
    rw [Nat.zero_add, ← List.map_drop]
    congr 1
    unfold zeros
    rw [List.drop_replicate]
  rwa [e] at h1
theorem slice_from (A : Option Addr) (n c lo : Nat) (h1 : lo ≤ n) (hm : n ≤ c) (w : World) : (Instr.slice 56 (.slice A n c) (some (.int .i64 (lo : Int))) none none).run Try.prog w = .ok (.slice (if c = lo then A else A.map (·.add (lo * 1))) (n - lo) (c - lo)) w := by
  have hu : (underlying 56).run Try.prog w = .ok (.slice 5) w := by kernel_rfl
  have hs : (sizeOf 5).run Try.prog w = .ok 1 w := by kernel_rfl
  have h3 : lo ≤ c := by omega
  have h4 : ¬ ((n : Int) < (lo : Int)) := by omega
  have h5 : ¬ ((c : Int) < (n : Int)) := by omega
  have h6 : (lo : Int) ≤ (n : Int) := by omega
  have h7 : (n : Int) ≤ (c : Int) := by omega
  simp [Instr.slice, Instr.sliceBounds, Instr.sliceBound, asIntOf, hu, hs, h1, hm, h3, h4, h5, h6, h7]
theorem exec_from {o : Oper} {a : Act} {W : World} {x y : Operand} {A Ap : Option Addr} {n c lo : Nat} (ho : o.op = .slice 56 x (some y) none none) (hx : a.eval x = .slice A n c) (hy : a.eval y = .int .i64 (lo : Int)) (h1 : lo ≤ n) (hm : n ≤ c) (hA : Ap = if c = lo then A else A.map (·.add (lo * 1))) :
    (execOp a.eval o).run Try.prog W = .ok (.value (.slice Ap (n - lo) (c - lo))) W := by
  have e : (Instr.sliceAt 56 (Value.slice A n c) (some (Value.int IntKind.i64 (lo : Int))) none none).run Try.prog W = .ok (.slice Ap (n - lo) (c - lo)) W := by
    rw [hA]
    have := slice_from A n c lo h1 hm W
    have hu : (underlying 56).run Try.prog W = .ok (.slice 5) W := by kernel_rfl
    simp [Instr.sliceAt, hu, this]
  simp [execOp, ho, hx, hy, e]
theorem drop_next (img : List Int) (k : Nat) : (img.drop (512 * k)).drop (piece img k).length = img.drop (512 * (k + 1)) := by
  rw [List.drop_drop]
  have hp := piece_len img k
  by_cases h : 512 ≤ img.length - 512 * k
  · rw [show 512 * k + (piece img k).length = 512 * (k + 1) by omega]
  · rw [List.drop_eq_nil_of_le (by omega), List.drop_eq_nil_of_le (by omega)]
theorem okb_piece {img : List Int} (h : OkB img) (k : Nat) : OkB (piece img k) := fun x hx => h x (List.mem_of_mem_drop (List.mem_of_mem_take hx))
theorem C_map {w w1 : World} {A : Option Addr} {n b m : Nat} {xs : List Int} {f : Int → List Int} (h : Kd.C (Kd.int .u8) w A n xs) (hM : MapIs w b m f) (hg : w.drew.grownBy w1 (some b)) : Kd.C (Kd.int .u8) w1 A n xs := by
  obtain ⟨h1, h2, h3⟩ := h
  refine ⟨h1, h2, fun hp => ?_⟩
  obtain ⟨ad, e, hc⟩ := h3 hp
  refine ⟨ad, e, fun j p hj => ?_⟩
  obtain ⟨cs, k1, k2, k3⟩ := hc j p hj
  refine ⟨cs, k1, k2, fun i u hu => ?_⟩
  have hcell := k3 i u hu
  obtain ⟨es, c, hm⟩ := map_blk hM
  have hne : (ad.add (j * (Kd.int IntKind.u8).sz + i)).block ≠ b := fun e => by
    simp [World.cell?, e, hm] at hcell
  have hlt : (ad.add (j * (Kd.int IntKind.u8).sz + i)).block < w.heap.size := by
    rcases Nat.lt_or_ge (ad.add (j * (Kd.int IntKind.u8).sz + i)).block w.heap.size with h' | h'
    · exact h'
    · simp [World.cell?, Array.getElem?_eq_none h'] at hcell
  have hb := hg.block (ad.add (j * (Kd.int IntKind.u8).sz + i)).block hlt (fun e => hne (by injection e))
  rw [← hcell]
  simp only [World.cell?]
  rw [hb]
  rfl
set_option maxHeartbeats 4000000 in
set_option maxRecDepth 100000 in
theorem load_calls (n : Int) (Ab : Option Addr) (cb : Nat) (img : List Int) (w : World) (hC : Kd.C (Kd.int .u8) w Ab img.length img) (hcb : img.length ≤ cb) (hl : img.length ≤ 1000000) (ho : OkB img) :
    Calls Try.prog 28 #[.int .i64 n, .slice Ab img.length cb] w fun e w' => ∃ g, e = .returned (.pointer (some ⟨g, 0, none⟩)) ∧ IsD w.heap.size w' g (loadDTo n img (loadN n img.length)) ∧ Below w.heap.size w w' := by
  have HC := Aside0.mk hC
  have HCB := Aside0.mk hcb
  have HOB := Aside0.mk ho
  obtain ⟨m, hm⟩ : ∃ m, m = clampN n := ⟨_, rfl⟩
  have hmb := clamp_bounds n
  rw [← hm] at hmb
  have HM := Aside0.mk hm
  obtain ⟨L, hL⟩ : ∃ L, L = img.length := ⟨_, rfl⟩
  rw [← hL] at hl hcb ⊢
  have HL := Aside0.mk hL
  have hKe : loadN n L = min m.toNat ((L + 511) / 512) := by unfold loadN; rw [← hm]
  obtain ⟨KK, hKK⟩ : ∃ KK, KK = loadN n L := ⟨_, rfl⟩
  rw [← hKK] at hKe ⊢
  have HKE := Aside0.mk hKe
  have HD0 := Aside0.mk (show L = (img.drop (512 * 0)).length by rw [hL]; rfl)
  clear hC hcb hm hL hKe hKK ho
  go_enter Try.func28, Try.ntmps28
  go_upto_block 0 with (first
    | (go_at_call 42; refine (made_calls n w).mono ?_; rintro e w2 ⟨g, rfl, h1, h2, h3⟩; have HD := Aside0.mk h1; have HB := Aside0.mk h3; clear h1 h2 h3))
  go_wp2_with fail
  go_loopw [1, 6] (fun y x wr => ∃ (k : Nat) (A : Option Addr) (nk c : Nat), k ≤ KK ∧ x = .int .i64 k ∧ y = .slice A nk c ∧ Aside0 (nk = (img.drop (512 * k)).length) ∧ Aside0 (nk ≤ c) ∧ Aside0 (Kd.C (Kd.int .u8) wr A (img.drop (512 * k)).length (img.drop (512 * k))) ∧ Aside0 (IsD w.heap.size wr g (loadDTo n img k)) ∧ Aside0 (Below w.heap.size w wr)) (fun _ x _ => KK - (intOf x).toNat)
  case atStart => exact ⟨0, Ab, L, cb, Nat.zero_le _, rfl, rfl, HD0, ⟨by rw [HL.out]; exact HCB.out⟩, ⟨Kd.C_below HC.out HB.out⟩, HD, HB⟩
  case round =>
    obtain ⟨k, A, nk, c, hk, rfl, rfl, HNK, HNC, HCk, HDk, HBk⟩ := hrel
    have hkb : k ≤ 4096 := by have := HKE.out; omega
    have hnk : nk = L - 512 * k := by rw [HNK.out, List.length_drop, HL.out]
    have hsm := loadDTo_same n img k
    obtain ⟨hok, bm, v, mm, hb, hg, hbb, hcm, hM, hR⟩ := HDk.out
    have hcn : wr.cell? ⟨g, 0, none⟩ = some (.int .i64 m) := (blk_cell hb 0).trans (by rw [HM.out, ← hsm.1]; rfl)
    have HSM := Aside0.mk hsm
    clear hok hb hg hbb hcm hM hR hsm
    by_cases h1 : (k : Int) < m
    · have e1 : decide ((k : Int) < m) = true := decide_eq_true h1
      by_cases h2 : 0 < nk
      · have e2 : decide ((0 : Int) < (nk : Int)) = true := decide_eq_true (by omega)
        have hkK : k < KK := by have := HKE.out; omega
        obtain ⟨pl, hpl⟩ : ∃ pl, pl = (piece img k).length := ⟨_, rfl⟩
        have hpl2 : pl = Nat.min nk 512 := by rw [hpl, piece_len, ← HL.out, ← hnk]; exact Nat.min_comm _ _
        have hpn : pl ≤ nk ∧ pl ≤ 512 := by rw [hpl2]; exact ⟨Nat.min_le_left _ _, Nat.min_le_right _ _⟩
        have HPL := Aside0.mk (And.intro hpl (And.intro hpl2 hpn))
        have HCp : Aside0 (Kd.C (Kd.int .u8) wr A (piece img k).length (piece img k)) := ⟨by
          have h9 := HCk.out
          unfold piece
          by_cases hh : 512 ≤ (img.drop (512 * k)).length
          · exact Kd.C_take h9 hh
          · rw [List.take_of_length_le (by omega)]
            exact h9⟩
        have HSP := Aside0.mk (pad_sec (b := piece img k) (by rw [← hpl]; exact hpn.2) (okb_piece HOB.out k))
        obtain ⟨Ap, hAp⟩ : ∃ Ap, Ap = if c = pl then A else A.map (·.add (pl * 1)) := ⟨_, rfl⟩
        have HAP := Aside0.mk hAp
        clear hpl hpl2 hpn hAp hnk
        go_upto_region 7 with (first
          | ((with_reducible refine gate_dst (N := 7) rfl ?_); refine wl_alloc 94 (secV zeros) zero56 rfl rfl ?_; intro g7 hg7 w3 hb8 hbl; have H7 := Aside0.mk hb8; have HZ1 := Aside0.mk hbl; have HG7 := Aside0.mk (Nat.le_of_eq hg7.symm); clear hb8 hbl hg7)
          | ((with_reducible refine gate_dst (N := 26) rfl ?_); refine wpList_copy_splice rfl (.tmp 24) (.tmp 25) 56 56 rfl 5 Try.underlying56 size5 (some ⟨g7, 0, none⟩) A 512 512 nk c rfl rfl g7 0 (secC zeros) 94 H7.out (nums .u8 (piece img k)) ?cl ?c1 ?c2 (nums_one _) wr.heap.size wr HZ1.out HG7.out ?_; (case cl => rw [← HPL.out.2.1, HPL.out.1]; simp [nums]); (case c1 => intro hp; exact ⟨rfl, nums_list (Kd.C_below HCp.out HZ1.out) (by simpa [nums] using hp)⟩); (case c2 => rw [secC_len sec_zeros]; have h9 := HPL.out.2.2.2; rw [HPL.out.1] at h9; simp [nums]; exact h9); intro w5 h5 hbb5; rw [show (nums IntKind.u8 (piece img k)).length = pl by rw [HPL.out.1]; simp [nums]]; have H8 := Aside0.mk (sec_copy (by rw [← HPL.out.1]; exact HPL.out.2.2.2) h5); have HZ := Aside0.mk hbb5; clear h5 hbb5 H7 HZ1)
          | ((with_reducible refine gate_dst (N := 27) rfl ?_); refine wl_value rfl (exec_from (x := .tmp 23) (y := .tmp 26) (lo := pl) rfl rfl rfl HPL.out.2.2.1 HNC.out HAP.out) ?_))
        have HD5 := Aside0.mk (HDk.out.below HZ.out)
        obtain ⟨hok, bm, v, mm, hb, hg, hbb, hcm, hM, hR⟩ := HD5.out
        have HG5 := Aside0.mk hb
        have HM5 := Aside0.mk hM
        have HR5 := Aside0.mk hR
        have HN5 := Aside0.mk (And.intro hok (And.intro hg (And.intro hbb hcm)))
        clear hok hb hg hbb hcm hM hR
        refine start_ (n := 7) (S := fun w' => w'.cell? ⟨g, 1, none⟩ = some (.map (some bm)) ∧ w'.heap[g7]? = some (.cells (secC (pad (piece img k))).toArray 94 (0, 0))) (ds := [6]) #[false, false, false, false, false, false, false] (by kernel_rfl) rfl rfl ⟨(blk_cell HG5.out 1).trans rfl, H8.out⟩ (fun hHeld => ?_)
        refine pure_ (i := 0) (N := some 28) (v := ?_) (a' := ?_) #[true, false, false, false, false, false, false] rfl rfl (by kernel_rfl) (fun _ _ _ h => h) (Or.inl ⟨by rfl, ?_⟩) ?_ ?_
        rotate_left
        · intro w'
          go_simp
          with_reducible rfl
        rotate_left
        · simp only [Act.put, List.setIfInBounds_toArray, List.set_cons_zero, List.set_cons_succ]
          rfl
        refine pure_ (i := 1) (N := some 29) (v := ?_) (a' := ?_) #[true, true, false, false, false, false, false] rfl rfl (by kernel_rfl) (fun _ _ _ h => h) (Or.inl ⟨by rfl, ?_⟩) ?_ ?_
        rotate_left
        · intro w'
          go_simp
          with_reducible rfl
        rotate_left
        · simp only [Act.put, List.setIfInBounds_toArray, List.set_cons_zero, List.set_cons_succ]
          rfl
        refine pure_ (i := 2) (N := some 30) (v := ?_) (a' := ?_) #[true, true, true, false, false, false, false] rfl rfl (by kernel_rfl) (fun _ _ _ h => h) (Or.inl ⟨by rfl, ?_⟩) ?_ ?_
        rotate_left
        · intro w'
          go_simp
          with_reducible rfl
        rotate_left
        · simp only [Act.put, List.setIfInBounds_toArray, List.set_cons_zero, List.set_cons_succ]
          rfl
        refine take_ (i := 3) (N := some 31) (v := ?_) (a' := ?_) #[true, true, true, true, false, false, false] rfl rfl (by kernel_rfl) (fun _ _ _ h => h) (Or.inl ⟨by rfl, ?_⟩) hHeld ?_ ?_
        rotate_left
        · rintro w' ⟨s0, s1⟩
          go_simp
          with_reducible rfl
        rotate_left
        · simp only [Act.put, List.setIfInBounds_toArray, List.set_cons_zero, List.set_cons_succ]
          rfl
        refine pure_ (i := 4) (N := some 32) (v := ?_) (a' := ?_) #[true, true, true, true, true, false, false] rfl rfl (by kernel_rfl) (fun _ _ _ h => h) (Or.inl ⟨by rfl, ?_⟩) ?_ ?_
        rotate_left
        · intro w'
          go_simp
          with_reducible rfl
        rotate_left
        · simp only [Act.put, List.setIfInBounds_toArray, List.set_cons_zero, List.set_cons_succ]
          rfl
        refine take_ (i := 5) (N := some 33) (v := secV (pad (piece img k))) (a' := ?_) #[true, true, true, true, true, true, false] rfl rfl (by kernel_rfl) (fun _ _ _ h => h) (Or.inl ⟨by rfl, ?_⟩) hHeld ?_ ?_
        · rintro w' ⟨s0, s1⟩
          have e_ := run_load_any (P := Try.prog) (t := 94) (W := w') (ad := ⟨g7, 0, none⟩) (cs := secC (pad (piece img k))) Try.underlying94 rfl (by rw [secC_len HSP.out]; exact size56) (sec_cells s1)
          exact exec_load (x := .tmp 7) rfl rfl e_
        rotate_left
        · simp only [Act.put, List.setIfInBounds_toArray, List.set_cons_zero, List.set_cons_succ]
          rfl
        refine last_ (i := 6) (N := none) #[true, true, true, true, true, true, true] rfl rfl (by kernel_rfl) (by decide) (fun K hK => ?_)
        obtain ⟨w9, hrun9, hM9, hg9⟩ := (HM5.out.kept (row := none) (grown_of_below (below_drew (Below.refl _ _)) none) (by simp)).put (by have h1 := HN5.out.2.2.2; rw [HSM.out.2.2.2.2] at h1; unfold maxLen; omega) (k : Int) ⟨by omega, by omega⟩ (pad (piece img k)) HSP.out
        have HM9 := Aside0.mk hM9
        have HG9 := Aside0.mk hg9
        clear hM9 hg9
        refine skip_ (w1 := w9) (by rfl) rfl (exec_put (m := .tmp 31) (x := .tmp 32) (v := .tmp 33) rfl rfl rfl rfl hrun9) ?_
        clear hrun9
        refine hK.out _ _ ?_
        clear hK K
        refine done_ (by kernel_rfl) ?_
        go_wp2
        go_roundw
        case rel =>
          have hbel : Below wr.heap.size wr w5.drew := below_drew HZ.out
          have hne : ∀ q, some bm = some q → w.heap.size ≤ q := fun q e => by injection e with e; subst e; exact HN5.out.2.2.1
          have hB9 : Below w.heap.size w w9 := (HBk.out.trans (hbel.mono HBk.out.size)).grown HG9.out (Nat.le_trans HBk.out.size hbel.size) hne
          refine ⟨k + 1, Ap, nk - pl, c - pl, by omega, by go_num, rfl, ⟨?_⟩, ⟨by have := HNC.out; omega⟩, ⟨?_⟩, ⟨?_⟩, ⟨hB9⟩⟩
          · rw [HNK.out, HPL.out.1, ← drop_next]; simp only [List.length_drop]
          · rw [← drop_next]
            have h9 := Kd.C_drop (c := c) (m := pl) HCk.out (by rw [← HNK.out]; exact HPL.out.2.2.1) (by rw [← HNK.out]; exact HNC.out)
            have h8 : Kd.C (Kd.int .u8) wr Ap ((img.drop (512 * k)).drop (piece img k).length).length ((img.drop (512 * k)).drop (piece img k).length) := by
              rw [← HPL.out.1, HAP.out]; exact h9
            exact C_map (Kd.C_below h8 HZ.out) HM5.out HG9.out
          · exact ⟨⟨HN5.out.1.n0, HN5.out.1.n1, HN5.out.1.l0, HN5.out.1.l1, HN5.out.1.at_⟩, bm, v, mm + 1, blk_grown (blk_drew HG5.out) HG9.out (map_ne HM5.out HG5.out), HN5.out.2.1, HN5.out.2.2.1, (by have := HN5.out.2.2.2; show mm + 1 + (loadDTo n img k).since.length ≤ (loadDTo n img k).cnt + 1; omega), HM9.out,
              Kd.R_mono (Kd.R_grown (Kd.R_mono (ok' := fun k => k ≠ bm) (Kd.R_bound (Kd.R_drew HR5.out)) (row_ne HM5.out)) HG9.out (fun k hk e => hk (by injection e))) (fun _ _ => trivial)⟩
        case measure => simp [intOf]; omega
      · have e2 : decide ((0 : Int) < (nk : Int)) = false := decide_eq_false (by omega)
        have hkK : k = KK := by have := HKE.out; omega
        subst hkK
        go_wp2
        go_ret
        exact ⟨_, rfl, HDk.out, HBk.out⟩
    · have e1 : decide ((k : Int) < m) = false := decide_eq_false h1
      have hkK : k = KK := by have := HKE.out; omega
      subst hkK
      go_wp2
      go_ret
      exact ⟨_, rfl, HDk.out, HBk.out⟩
end Go.Proofs.Ytmghgghheebnjaa.Dis
