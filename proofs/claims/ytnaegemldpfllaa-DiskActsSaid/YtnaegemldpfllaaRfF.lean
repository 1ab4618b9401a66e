/- The answer's disk: Bytes, keeps, walked by hand (written by mkref.py). -/
import Derived.Test.YtnaegemldpfllaaRfE
namespace Go.Proofs.Ytnaegemldpfllaa.Dis
open Go.RowKit Go.Proofs.YtnaegemldpfllaaW.PrintWords Go.Proofs.YtnaegemldpfllaaW.PrintLast Go.Proofs.YtnaegemldpfllaaW.PrintMore Go.Maps
set_option linter.unusedVariables false
set_option linter.unusedSimpArgs false
def rfast (r : Rf) (i : Int) : List Int := match r.at_.findIdx? (· == i) with
  | some k => r.b.getD k []
  | none => zeros
def bytesR (r : Rf) (i : Int) : List Int := if i < 0 ∨ r.n ≤ i then [] else rfast r i
set_option maxHeartbeats 4000000 in
theorem rbytes_calls (base g : Nat) (r : Rf) (i : Int) (W : World) (h : IsRf base W g r) (hn : r.at_.length = r.b.length) (hlen : r.at_.length ≤ 1000000) :
    Calls Try.prog 23 #[.pointer (some ⟨g, 0, none⟩), .int .i64 i] W fun e w' => ∃ v, e = .returned v ∧ Kd.R (Kd.int .u8) 5 w' base tt v (bytesR r i) ∧ Below W.heap.size W w' := by
  have info5 : (Try.prog.info? 5).map (fun i => (i.zero, i.size, i.bytes)) = some (some (.int .u8 0), 1, 1) := by kernel_rfl
  have INF := Aside0.mk info5
  clear info5
  obtain ⟨vA, vB, vT, vW, h⟩ := h
  obtain ⟨AA, cA, rfl⟩ := Kd.R_slice h.rA
  obtain ⟨AB, cB, rfl⟩ := Kd.R_slice h.rB
  have c0 : W.cell? ⟨g, 0, none⟩ = some (.int .i64 r.n) := (blk_cell h.blk 0).trans rfl
  have c1 : W.cell? ⟨g, 1, none⟩ = some (.slice AA r.at_.length cA) := (blk_cell h.blk 1).trans rfl
  have c2 : W.cell? ⟨g, 2, none⟩ = some (.slice AB r.b.length cB) := (blk_cell h.blk 2).trans rfl
  obtain ⟨n, hnn⟩ : ∃ n, n = r.at_.length := ⟨_, rfl⟩
  have hnb : r.b.length = n := by omega
  have HH := Aside0.mk h
  rw [← hnn] at c1
  rw [hnb] at c2
  have HNA := Aside0.mk hnn
  have HNB := Aside0.mk hnb
  have hn6 : n ≤ 1000000 := by omega
  have HSZ := Aside0.mk (sz_le h.st)
  clear h hlen hn hnn hnb
  unfold bytesR
  by_cases h1 : i < 0
  · rw [if_pos (.inl h1)]
    have e1 : decide (i < 0) = true := decide_eq_true h1
    go_enter Try.func23, Try.ntmps23
    go_wp2
    go_ret
    exact ⟨_, rfl, Kd.R_nil _ _ _ _ _, Below.refl _ _⟩
  · by_cases h2 : r.n ≤ i
    · rw [if_pos (.inr h2)]
      have e1 : decide (i < 0) = false := decide_eq_false h1
      have e2 : decide (r.n ≤ i) = true := decide_eq_true h2
      go_enter Try.func23, Try.ntmps23
      go_wp2
      go_ret
      exact ⟨_, rfl, Kd.R_nil _ _ _ _ _, Below.refl _ _⟩
    · rw [if_neg (by omega)]
      have e1 : decide (i < 0) = false := decide_eq_false h1
      have e2 : decide (r.n ≤ i) = false := decide_eq_false h2
      go_enter Try.func23, Try.ntmps23
      go_wp2_with fail
      go_loopw [5] (fun x wr => ∃ k : Nat, k ≤ n ∧ x = .int .i64 k ∧ wr = W ∧ Aside0 (∀ j, j < k → rd r.at_ (j : Int) ≠ i)) (fun x _ => n - (intOf x).toNat)
      case atStart => exact ⟨0, Nat.zero_le _, rfl, rfl, ⟨fun j hj => absurd hj (Nat.not_lt_zero _)⟩⟩
      case round =>
        obtain ⟨k, hk, rfl, hwr, HF⟩ := hrel
        subst hwr
        by_cases hlt : k < n
        · have e1 : decide ((k : Int) < n) = true := decide_eq_true (by omega)
          have e2 : decide (k < n) = true := decide_eq_true hlt
          obtain ⟨ad, hA, cel⟩ := Kd.at_int (C_ofR HH.out.rA) (k : Int) (by omega) (by rw [← HNA.out]; omega)
          subst hA
          simp only [Int.toNat_natCast] at cel
          obtain ⟨gb, Ak, ck, hB2, hgb, hcs, cbk, hRk⟩ := bs_at HH.out.rB rfl k (by rw [HNB.out]; exact hlt)
          subst hB2
          have HRk := Aside0.mk hRk
          clear hcs hgb hRk
          by_cases hi : rd r.at_ (k : Int) = i
          · rw [hi] at cel
            have e3 : (i == i) = true := by simp
            go_wp2
            go_ret
            refine ⟨_, rfl, ?_, Below.refl _ _⟩
            unfold rfast
            rw [find_at (by rw [← HNA.out]; exact hlt) HF.out hi]
            exact HRk.out
          · have e3 : (rd r.at_ (k : Int) == i) = false := by simp [hi]
            go_wp2
            go_roundw
            case rel => exact ⟨k + 1, by omega, by go_num, by trivial, ⟨fun j hj => by
              by_cases hjk : j = k
              · rw [hjk]; exact hi
              · exact HF.out j (by omega)⟩⟩
            case measure => simp [intOf]; omega
        · obtain rfl : k = n := by omega
          have e1 : decide ((k : Int) < k) = false := decide_eq_false (by omega)
          have hno := Aside0.mk (find_no (l := r.at_) (i := i) (by rw [← HNA.out]; exact HF.out))
          go_wp2_with (first
            | ((with_reducible refine gate_dst (N := 41) rfl ?_); refine Kd.R_make (Kd.int .u8) (w0 := wr) wr.heap.size 5 rfl (N := 41) rfl 28 _ _ rfl 512 rfl rfl Try.underlying28 (.int .u8 0) 1 INF.out rfl (by decide) (by decide) 0 (ok := fun _ => True) (okp := fun _ => True) ?hz (fun _ h => h) trivial (by decide) (by decide) (Below.refl _ _) (Nat.le_refl _) ?_; (case hz => rfl); intro v3 w3 ho hb _ _; have HO := Aside0.mk ho; have HB3 := Aside0.mk hb; clear ho hb))
          go_ret
          refine ⟨_, rfl, ?_, HB3.out⟩
          unfold rfast
          rw [hno.out]
          exact Kd.R_lower HO.out HSZ.out
/-- What stands fast when k writes have been gone through. -/
def keptR (F : Nat → Bool) (r : Rf) : Nat → Rf
  | 0 => r
  | k + 1 => if F k = true then setR (keptR F r k) (r.to_.getD k 0) (r.ws.getD k []) else keptR F r k
def keepsR (r : Rf) (F : Nat → Bool) : Rf := { keptR F r r.to_.length with to_ := [], ws := [] }
theorem setR_same (r : Rf) (i : Int) (s : List Int) : (setR r i s).to_ = r.to_ ∧ (setR r i s).ws = r.ws ∧ (setR r i s).n = r.n ∧ (setR r i s).left = r.left ∧ (setR r i s).armed = r.armed ∧ (setR r i s).dead = r.dead ∧
    (r.at_.length = r.b.length → (setR r i s).at_.length = (setR r i s).b.length) ∧ (setR r i s).at_.length ≤ r.at_.length + 1 := by
  unfold setR
  split
  · exact ⟨rfl, rfl, rfl, rfl, rfl, rfl, fun h => by simp [h], Nat.le_succ _⟩
  · exact ⟨rfl, rfl, rfl, rfl, rfl, rfl, fun h => by simp [h], by simp⟩
theorem keptR_same (F : Nat → Bool) (r : Rf) : ∀ k, (keptR F r k).to_ = r.to_ ∧ (keptR F r k).ws = r.ws ∧ (keptR F r k).n = r.n ∧ (keptR F r k).left = r.left ∧ (keptR F r k).armed = r.armed ∧ (keptR F r k).dead = r.dead ∧
    (r.at_.length = r.b.length → (keptR F r k).at_.length = (keptR F r k).b.length) ∧ (keptR F r k).at_.length ≤ r.at_.length + k
  | 0 => ⟨rfl, rfl, rfl, rfl, rfl, rfl, fun h => h, Nat.le_refl _⟩
  | k + 1 => by
    obtain ⟨h1, h2, h3, h4, h5, h6, h7, h8⟩ := keptR_same F r k
    unfold keptR
    by_cases hF : F k = true
    · rw [if_pos hF]
      obtain ⟨g1, g2, g3, g4, g5, g6, g7, g8⟩ := setR_same (keptR F r k) (r.to_.getD k 0) (r.ws.getD k [])
      exact ⟨g1.trans h1, g2.trans h2, g3.trans h3, g4.trans h4, g5.trans h5, g6.trans h6, fun h => g7 (h7 h), by omega⟩
    · rw [if_neg hF]
      exact ⟨h1, h2, h3, h4, h5, h6, h7, by omega⟩
theorem St.nilT {base g : Nat} {w : World} {c : Array Value} {xA xB xT xW : Value} {lA lT : List Int} {lB lW : List (List Int)} (h : St base w g c xA lA xB lB xT lT xW lW) : St base w g c xA lA xB lB (.slice none 0 0) [] (.slice none 0 0) [] :=
  ⟨h.blk, h.ge, h.rA, h.rB, Kd.R_nil _ _ _ _ _, Kd.R_nil _ _ _ _ _, fun k _ e => by simp [Value.ownBlock] at e, fun k _ e => by simp [Value.ownBlock] at e⟩
set_option maxHeartbeats 4000000 in
set_option maxRecDepth 100000 in
theorem rkeeps_calls (base g : Nat) (r : Rf) (w W : World) (h : IsRf base W g r) (hB : Below base w W) (hn : r.at_.length = r.b.length) (ht : r.to_.length = r.ws.length) (hlen : r.at_.length + r.to_.length ≤ 1000000)
    (Ak : Option Addr) (ck : Nat) (l : List Bool) (hl : ∀ W', KeepR W W' → Below base w W' → Kd.C Kd.bool W' Ak l.length l) (hll : l.length ≤ 9223372036854775807) :
    Calls Try.prog 42 #[.pointer (some ⟨g, 0, none⟩), .slice Ak l.length ck] W fun e w' => e = .returned (.tuple #[]) ∧ IsRf base w' g (keepsR r (kept l)) ∧ Below base w w' ∧ KeepR W w' := by
  have HH := Aside0.mk h
  have HBB := Aside0.mk hB
  have HL := Aside0.mk hl
  have HN := Aside0.mk (And.intro hn (And.intro ht hlen))
  obtain ⟨n, hnn⟩ : ∃ n, n = r.to_.length := ⟨_, rfl⟩
  have HNN := Aside0.mk hnn
  have hn6 : n ≤ 1000000 := by omega
  obtain ⟨m, hm⟩ : ∃ m, m = l.length := ⟨_, rfl⟩
  rw [← hm] at hll ⊢
  have HM := Aside0.mk hm
  clear h hB hl hn ht hlen hnn hm
  go_enter Try.func42, Try.ntmps42
  go_wp2_with fail
  go_loopw [4] (fun x wr => ∃ k : Nat, k ≤ n ∧ x = .int .i64 k ∧ Aside0 (IsRf base wr g (keptR (kept l) r k)) ∧ Aside0 (Below base w wr) ∧ Aside0 (KeepR W wr)) (fun x _ => n - (intOf x).toNat)
  case atStart => exact ⟨0, Nat.zero_le _, rfl, HH, HBB, ⟨KeepR.refl W⟩⟩
  case round =>
    obtain ⟨k, hk, rfl, HDk, HBk, HKk⟩ := hrel
    obtain ⟨q1, q2, q3, q4, q5, q6, q7, q8⟩ := keptR_same (kept l) r k
    obtain ⟨rk, hrk⟩ : ∃ rk, rk = keptR (kept l) r k := ⟨_, rfl⟩
    rw [← hrk] at HDk q1 q2 q7 q8
    have HRK := Aside0.mk hrk
    have HQ := Aside0.mk (And.intro q1 (And.intro q2 (And.intro (q7 HN.out.1) q8)))
    clear q1 q2 q3 q4 q5 q6 q7 q8 hrk
    obtain ⟨vA, vB, vT, vW, h⟩ := HDk.out
    obtain ⟨AT, cT, rfl⟩ := Kd.R_slice h.rT
    obtain ⟨AW, cW, rfl⟩ := Kd.R_slice h.rW
    have hTn : rk.to_.length = n := by rw [HQ.out.1]; exact HNN.out.symm
    have hWn : rk.ws.length = n := by rw [HQ.out.2.1, ← HN.out.2.1]; exact HNN.out.symm
    have c3 : wr.cell? ⟨g, 3, none⟩ = some (.slice AT n cT) := (blk_cell h.blk 3).trans (by rw [← hTn]; rfl)
    have c4 : wr.cell? ⟨g, 4, none⟩ = some (.slice AW n cW) := (blk_cell h.blk 4).trans (by rw [← hWn]; rfl)
    have f3 := blk_frozen h.blk 3
    have f4 := blk_frozen h.blk 4
    have HS := Aside0.mk h
    have HTW := Aside0.mk (And.intro hTn hWn)
    clear h hTn hWn
    by_cases hlt : k < n
    · have e1 : decide ((k : Int) < n) = true := decide_eq_true (by omega)
      have e2 : decide (k < n) = true := decide_eq_true hlt
      by_cases hkm : k < m
      · have e3 : decide ((k : Int) < m) = true := decide_eq_true (by omega)
        have e4 : decide (k < m) = true := decide_eq_true hkm
        obtain ⟨adk, hAk, celk⟩ := Kd.at_bool (HL.out wr HKk.out HBk.out) (k : Int) (by omega) (by rw [← HM.out]; omega)
        subst hAk
        simp only [Int.toNat_natCast] at celk
        obtain ⟨bk, hbk⟩ : ∃ bk, bk = rdOf false l (k : Int) := ⟨_, rfl⟩
        rw [← hbk] at celk
        have hkp : kept l k = bk := by
          rw [hbk]
          unfold kept rdOf
          simp [List.getD_eq_getElem?_getD, List.getElem?_eq_getElem (show k < l.length by rw [← HM.out]; exact hkm)]
        have HKP := Aside0.mk hkp
        clear hbk hkp
        cases bk with
        | false =>
          go_wp2
          go_roundw
          case rel => exact ⟨k + 1, by omega, by go_num, ⟨by unfold keptR; rw [if_neg (by rw [HKP.out]; decide), ← HRK.out]; exact HDk.out⟩, HBk, HKk⟩
          case measure => simp [intOf]; omega
        | true =>
          obtain ⟨adT, hAT, celT⟩ := Kd.at_int (C_ofR HS.out.rT) (k : Int) (by omega) (by rw [HTW.out.1]; omega)
          subst hAT
          simp only [Int.toNat_natCast] at celT
          obtain ⟨gb, Aw, cw, hB2, hgb, hcs, cbk, hRk⟩ := bs_at HS.out.rW rfl k (by rw [HTW.out.2]; exact hlt)
          subst hB2
          have HRk := Aside0.mk hRk
          clear hcs hgb hRk
          obtain ⟨ti, hti⟩ : ∃ ti, ti = rd rk.to_ (k : Int) := ⟨_, rfl⟩
          rw [← hti] at celT
          obtain ⟨ts, hts⟩ : ∃ ts, ts = rk.ws.getD k [] := ⟨_, rfl⟩
          rw [← hts] at HRk cbk
          have HTI := Aside0.mk (And.intro hti hts)
          clear hti hts
          go_upto_region 4 with fail
          refine start_ (n := 16) (S := fun w' => w'.cell? ⟨g, 3, none⟩ = some (.slice (some adT) n cT) ∧ w'.cell? ⟨g, 4, none⟩ = some (.slice (some ⟨gb, 0, none⟩) n cW) ∧ w'.cell? (adT.add k) = some (.int .i64 ti) ∧ w'.cell? ⟨gb, k, none⟩ = some (.slice Aw ts.length cw)) (ds := [15]) #[false, false, false, false, false, false, false, false, false, false, false, false, false, false, false, false] (by kernel_rfl) rfl rfl ⟨c3, c4, celT, cbk⟩ (fun hHeld => ?_)
          refine pure_ (i := 0) (N := some 24) (v := ?_) (a' := ?_) #[true, false, false, false, false, false, false, false, false, false, false, false, false, false, false, false] rfl rfl (by kernel_rfl) (fun _ _ _ h => h) (Or.inl ⟨by rfl, ?_⟩) ?_ ?_
          rotate_left
          · intro w'
            go_simp
            with_reducible rfl
          rotate_left
          · simp only [Act.put, List.setIfInBounds_toArray, List.set_cons_zero, List.set_cons_succ]
            rfl
          refine pure_ (i := 1) (N := some 25) (v := ?_) (a' := ?_) #[true, true, false, false, false, false, false, false, false, false, false, false, false, false, false, false] rfl rfl (by kernel_rfl) (fun _ _ _ h => h) (Or.inl ⟨by rfl, ?_⟩) ?_ ?_
          rotate_left
          · intro w'
            go_simp
            with_reducible rfl
          rotate_left
          · simp only [Act.put, List.setIfInBounds_toArray, List.set_cons_zero, List.set_cons_succ]
            rfl
          refine pure_ (i := 2) (N := some 26) (v := ?_) (a' := ?_) #[true, true, true, false, false, false, false, false, false, false, false, false, false, false, false, false] rfl rfl (by kernel_rfl) (fun _ _ _ h => h) (Or.inl ⟨by rfl, ?_⟩) ?_ ?_
          rotate_left
          · intro w'
            go_simp
            with_reducible rfl
          rotate_left
          · simp only [Act.put, List.setIfInBounds_toArray, List.set_cons_zero, List.set_cons_succ]
            rfl
          refine pure_ (i := 3) (N := some 27) (v := ?_) (a' := ?_) #[true, true, true, true, false, false, false, false, false, false, false, false, false, false, false, false] rfl rfl (by kernel_rfl) (fun _ _ _ h => h) (Or.inl ⟨by rfl, ?_⟩) ?_ ?_
          rotate_left
          · intro w'
            go_simp
            with_reducible rfl
          rotate_left
          · simp only [Act.put, List.setIfInBounds_toArray, List.set_cons_zero, List.set_cons_succ]
            rfl
          refine take_ (i := 4) (N := some 28) (v := ?_) (a' := ?_) #[true, true, true, true, true, false, false, false, false, false, false, false, false, false, false, false] rfl rfl (by kernel_rfl) (fun _ _ _ h => h) (Or.inl ⟨by rfl, ?_⟩) hHeld ?_ ?_
          rotate_left
          · rintro w' ⟨s0, s1⟩
            obtain ⟨s1, s2, s3⟩ := s1
            go_simp
            with_reducible rfl
          rotate_left
          · simp only [Act.put, List.setIfInBounds_toArray, List.set_cons_zero, List.set_cons_succ]
            rfl
          refine pure_ (i := 5) (N := some 29) (v := ?_) (a' := ?_) #[true, true, true, true, true, true, false, false, false, false, false, false, false, false, false, false] rfl rfl (by kernel_rfl) (fun _ _ _ h => h) (Or.inl ⟨by rfl, ?_⟩) ?_ ?_
          rotate_left
          · intro w'
            go_simp
            with_reducible rfl
          rotate_left
          · simp only [Act.put, List.setIfInBounds_toArray, List.set_cons_zero, List.set_cons_succ]
            rfl
          refine pure_ (i := 6) (N := some 30) (v := .pointer (some (adT.add k))) (a' := ?_) #[true, true, true, true, true, true, true, false, false, false, false, false, false, false, false, false] rfl rfl (by kernel_rfl) (fun _ _ _ h => h) (Or.inl ⟨by rfl, ?_⟩) ?_ ?_
          · intro w'
            have hi_ : (k : Int) < n := by omega
            go_simp
          rotate_left
          · simp only [Act.put, List.setIfInBounds_toArray, List.set_cons_zero, List.set_cons_succ]
            rfl
          refine take_ (i := 7) (N := some 31) (v := ?_) (a' := ?_) #[true, true, true, true, true, true, true, true, false, false, false, false, false, false, false, false] rfl rfl (by kernel_rfl) (fun _ _ _ h => h) (Or.inl ⟨by rfl, ?_⟩) hHeld ?_ ?_
          rotate_left
          · rintro w' ⟨s0, s1⟩
            obtain ⟨s1, s2, s3⟩ := s1
            go_simp
            with_reducible rfl
          rotate_left
          · simp only [Act.put, List.setIfInBounds_toArray, List.set_cons_zero, List.set_cons_succ]
            rfl
          refine pure_ (i := 8) (N := some 32) (v := ?_) (a' := ?_) #[true, true, true, true, true, true, true, true, true, false, false, false, false, false, false, false] rfl rfl (by kernel_rfl) (fun _ _ _ h => h) (Or.inl ⟨by rfl, ?_⟩) ?_ ?_
          rotate_left
          · intro w'
            go_simp
            with_reducible rfl
          rotate_left
          · simp only [Act.put, List.setIfInBounds_toArray, List.set_cons_zero, List.set_cons_succ]
            rfl
          refine pure_ (i := 9) (N := some 33) (v := ?_) (a' := ?_) #[true, true, true, true, true, true, true, true, true, true, false, false, false, false, false, false] rfl rfl (by kernel_rfl) (fun _ _ _ h => h) (Or.inl ⟨by rfl, ?_⟩) ?_ ?_
          rotate_left
          · intro w'
            go_simp
            with_reducible rfl
          rotate_left
          · simp only [Act.put, List.setIfInBounds_toArray, List.set_cons_zero, List.set_cons_succ]
            rfl
          refine pure_ (i := 10) (N := some 34) (v := ?_) (a' := ?_) #[true, true, true, true, true, true, true, true, true, true, true, false, false, false, false, false] rfl rfl (by kernel_rfl) (fun _ _ _ h => h) (Or.inl ⟨by rfl, ?_⟩) ?_ ?_
          rotate_left
          · intro w'
            go_simp
            with_reducible rfl
          rotate_left
          · simp only [Act.put, List.setIfInBounds_toArray, List.set_cons_zero, List.set_cons_succ]
            rfl
          refine take_ (i := 11) (N := some 35) (v := ?_) (a' := ?_) #[true, true, true, true, true, true, true, true, true, true, true, true, false, false, false, false] rfl rfl (by kernel_rfl) (fun _ _ _ h => h) (Or.inl ⟨by rfl, ?_⟩) hHeld ?_ ?_
          rotate_left
          · rintro w' ⟨s0, s1⟩
            obtain ⟨s1, s2, s3⟩ := s1
            go_simp
            with_reducible rfl
          rotate_left
          · simp only [Act.put, List.setIfInBounds_toArray, List.set_cons_zero, List.set_cons_succ]
            rfl
          refine pure_ (i := 12) (N := some 36) (v := ?_) (a' := ?_) #[true, true, true, true, true, true, true, true, true, true, true, true, true, false, false, false] rfl rfl (by kernel_rfl) (fun _ _ _ h => h) (Or.inl ⟨by rfl, ?_⟩) ?_ ?_
          rotate_left
          · intro w'
            go_simp
            with_reducible rfl
          rotate_left
          · simp only [Act.put, List.setIfInBounds_toArray, List.set_cons_zero, List.set_cons_succ]
            rfl
          refine pure_ (i := 13) (N := some 37) (v := .pointer (some ⟨gb, k, none⟩)) (a' := ?_) #[true, true, true, true, true, true, true, true, true, true, true, true, true, true, false, false] rfl rfl (by kernel_rfl) (fun _ _ _ h => h) (Or.inl ⟨by rfl, ?_⟩) ?_ ?_
          · intro w'
            have hi_ : (k : Int) < n := by omega
            go_simp
          rotate_left
          · simp only [Act.put, List.setIfInBounds_toArray, List.set_cons_zero, List.set_cons_succ]
            rfl
          refine take_ (i := 14) (N := some 38) (v := ?_) (a' := ?_) #[true, true, true, true, true, true, true, true, true, true, true, true, true, true, true, false] rfl rfl (by kernel_rfl) (fun _ _ _ h => h) (Or.inl ⟨by rfl, ?_⟩) hHeld ?_ ?_
          rotate_left
          · rintro w' ⟨s0, s1⟩
            obtain ⟨s1, s2, s3⟩ := s1
            go_simp
            with_reducible rfl
          rotate_left
          · simp only [Act.put, List.setIfInBounds_toArray, List.set_cons_zero, List.set_cons_succ]
            rfl
          refine last_ (i := 15) (N := some 39) #[true, true, true, true, true, true, true, true, true, true, true, true, true, true, true, true] rfl rfl (by kernel_rfl) (by decide) (fun K hK => ?_)
          refine goes_ Try.func33 (by kernel_rfl) rfl #[.pointer (some ⟨g, 0, none⟩), .int .i64 ti, .slice Aw ts.length cw] (by rfl) rfl rfl (by (try simp only [List.map_toArray, List.map_cons, List.map_nil]); first | done | rfl) ?_
          refine (set_calls base g rk ti Aw cw ts w _ (HDk.out.below (below_drew (Below.refl _ _))) (below_drew HBk.out) (Kd.R_drew HRk.out) HQ.out.2.2.1 (by have h1 := HQ.out.2.2.2; have h2 := HN.out.2.2; have h3 := HNN.out; omega)).mono ?_
          rintro e w5 ⟨rfl, h4, h5, h6⟩
          refine ⟨_, rfl, ?_⟩
          have HD5 := Aside0.mk h4
          have HB5 := Aside0.mk h5
          have HK5 := Aside0.mk (HKk.out.trans ((KeepR.of_below (below_drew (Below.refl _ _))).trans h6))
          clear h4 h5 h6
          refine hK.out _ _ ?_
          clear hK K
          refine done_ (by kernel_rfl) ?_
          go_wp2
          go_roundw
          case rel => exact ⟨k + 1, by omega, by go_num, ⟨by
            unfold keptR
            rw [if_pos HKP.out, ← HRK.out, show r.to_.getD k 0 = ti by rw [HTI.out.1, ← HQ.out.1]; rfl, show r.ws.getD k [] = ts by rw [HTI.out.2, ← HQ.out.2.1]]
            exact HD5.out⟩, HB5, HK5⟩
          case measure => simp [intOf]; omega
      · have e3 : decide ((k : Int) < m) = false := decide_eq_false (by omega)
        have hkp : kept l k = false := by
          unfold kept
          simp [show ¬ k < l.length by rw [← HM.out]; exact hkm]
        go_wp2
        go_roundw
        case rel => exact ⟨k + 1, by omega, by go_num, ⟨by unfold keptR; rw [if_neg (by rw [hkp]; decide), ← HRK.out]; exact HDk.out⟩, HBk, HKk⟩
        case measure => simp [intOf]; omega
    · obtain rfl : k = n := by omega
      have e1 : decide ((k : Int) < k) = false := decide_eq_false (by omega)
      go_wp2
      go_end0
      have hp := (HS.out.st.nilT.put 3 (.slice none 0 0)).put 4 (.slice none 0 0)
      have e : keepsR r (kept l) = { rk with to_ := [], ws := [] } := by unfold keepsR; rw [← HNN.out, ← HRK.out]
      rw [e]
      exact ⟨rfl, ⟨_, _, _, _, St.at_ (r := { rk with to_ := [], ws := [] }) hp⟩, (HBk.out.setCell HS.out.ge _).setCell HS.out.ge _, (HKk.out.set HS.out.blk _).set (HS.out.st.put 3 (.slice none 0 0)).blk _⟩
end Go.Proofs.Ytnaegemldpfllaa.Dis
