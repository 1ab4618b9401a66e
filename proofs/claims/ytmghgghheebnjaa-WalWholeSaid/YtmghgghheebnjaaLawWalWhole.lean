/- The law WalWhole returns true for every two lists of acts, and leaves its arguments as they were; no further condition. (Merged by merge.py.) -/
import Derived.Test.YtmghgghheebnjaaWalR
import Derived.Test.YtmghgghheebnjaaDisR
import Derived.Deep.Strs
import Derived.Lib.SmallJoins
import Derived.SizedLaws
import Derived.Test.YtmghgghheebnjaaWalS
import Derived.Lib.Bytes
import Derived.Test.YtmghgghheebnjaaRows
import Derived.WalkKit
import Derived.ProofKit
import Derived.OpenShut
import Derived.ShutString
import Derived.ChangeOld
import Derived.Below
import Derived.Carry
namespace Go.Proofs.Ytmghgghheebnjaa.Dis
open Go.RowKit Go.Proofs.YtmghgghheebnjaaW.PrintWords Go.Proofs.YtmghgghheebnjaaW.PrintLast Go.Proofs.YtmghgghheebnjaaW.PrintMore Go.Maps Go.Proofs.Ytmghgghheebnjaa.PWalRecords
set_option linter.unusedVariables false
set_option linter.unusedSimpArgs false
/-- A put: its number, its byte. -/
abbrev Put_ := Int × Int
def putK : Kd Put_ := Kd.pair (Kd.int .i64) (Kd.int .u8)
theorem atPut {w : World} {A : Option Addr} {n : Nat} {l : List Put_} (h : Kd.C putK w A n l) (k : Nat) (hk : k < n) : ∃ ad, A = some ad ∧ w.cell? (ad.add (k * 2)) = some (.int .i64 (l.getD k (0, 0)).1) ∧ w.cell? ⟨(ad.add (k * 2)).block, (ad.add (k * 2)).off + 1, none⟩ = some (.int .u8 (l.getD k (0, 0)).2) := by
  obtain ⟨ad, c, e, _, hK, hc0⟩ := Kd.C_get h (0, 0) (k : Int) (by omega) (by omega)
  have hc : ∀ j u, c[j]? = some u → w.cell? (ad.add (k * 2 + j)) = some u := fun j u hj => by have := hc0 j u hj; rwa [Int.toNat_natCast] at this
  rw [Int.toNat_natCast] at hK
  obtain ⟨_, _, rfl, rfl, rfl⟩ := hK
  exact ⟨ad, e, hc 0 _ rfl, by rw [← add_field _ _ 1 (by omega)]; exact hc 1 _ rfl⟩
/-- The last three bits. -/
def low3 (x : Int) : Int := Go.bits .and .i64 x 7
theorem low3_bound (x : Int) : 0 ≤ low3 x ∧ low3 x ≤ 7 := by
  have hb : low3 x = IntKind.i64.wrap (((BitVec.ofInt IntKind.i64.bits x &&& BitVec.ofInt IntKind.i64.bits 7).toNat : Nat) : Int) := rfl
  have h : (BitVec.ofInt IntKind.i64.bits x &&& BitVec.ofInt IntKind.i64.bits 7).toNat ≤ 7 := by
    rw [BitVec.toNat_and]
    refine Nat.le_trans Nat.and_le_right ?_
    decide
  rw [hb, IntKind.wrap_i64]
  omega
/-- Pages of puts. -/
def pageOf (p : Put_) : S58 := ⟨low3 p.1, List.replicate 512 p.2⟩
def pagesW (l : List Put_) : List S58 := (l.take 70).map pageOf
theorem pagesW_snoc {l : List Put_} {k : Nat} (hk : k < l.length) : (l.take (k + 1)).map pageOf = (l.take k).map pageOf ++ [pageOf (l.getD k (0, 0))] := by
  rw [List.getD_eq_getElem?_getD, List.getElem?_eq_getElem hk, Option.getD_some, ← List.take_append_getElem hk, List.map_append]
  rfl
set_option maxHeartbeats 8000000 in
set_option maxRecDepth 100000 in
theorem pages_calls (W : World) (A : Option Addr) (n c : Nat) (l : List Put_) (hC : Kd.C putK W A n l) : Calls Try.prog 21 #[.slice A n c, .int .i64 8] W fun e w' => ∃ v, e = .returned v ∧ Kd.R k58 58 w' W.heap.size tt v (pagesW l) ∧ Below W.heap.size W w' := by
  have HC := Aside0.mk hC
  have HL := Aside0.mk hC.1
  have INF8 := Aside0.mk info58'
  have hmx : n ≤ 9223372036854775807 := hC.2.1
  clear hC
  go_enter Try.func21, Try.ntmps21
  go_upto_region 2 with ((with_reducible refine gate_dst (N := 7) rfl ?_); refine Kd.R_lit k58 (w0 := W) W.heap.size 58 ?hg (N := 7) ?hd (xs := ([] : List S58)) (inner := []) (ok := tt) (okp := tt) ?hr ?hp (fun _ hk => hk) trivial (Below.refl _ _) (Nat.le_refl _) (by simp) ?_; (case hd => rfl); (case hg => rfl); (case hr => first | (go_simp; done) | (go_simp; rfl)); (case hp => exact (Reps.none _ _)); intro v3 w3 ho hb hg_ hnew_; clear hg_ hnew_; have HO := Aside0.mk ho; have HB3 := Aside0.mk hb; clear hb ho)
  go_wp2_with fail
  go_loopw [5, 6] (fun y x wr => ∃ (k : Nat), k ≤ n ∧ k ≤ 70 ∧ x = .int .i64 k ∧ Aside0 (Kd.R k58 58 wr W.heap.size tt y ((l.take k).map pageOf)) ∧ Aside0 (Below W.heap.size W wr)) (fun _ x _ => 70 - (intOf x).toNat)
  case atStart => exact ⟨0, Nat.zero_le _, Nat.zero_le _, rfl, HO, HB3⟩
  case round =>
    obtain ⟨k, hk, hk7, rfl, HRk, HBk⟩ := hrel
    by_cases hlt : k < n
    · have f1 : decide ((k : Int) < n) = true := decide_eq_true (by omega)
      by_cases hlt2 : k < 70
      · have f2 : decide ((k : Int) < 70) = true := decide_eq_true (by omega)
        obtain ⟨ad, hA, p0, p1⟩ := atPut (Kd.C_below HC.out HBk.out) k hlt
        subst hA
        obtain ⟨yA, yc, hy⟩ := Kd.R_slice HRk.out
        subst hy
        rw [show ((l.take k).map pageOf).length = k by rw [List.length_map, List.length_take, HL.out]; omega] at HRk ⊢
        have HSN := Aside0.mk (pagesW_snoc (l := l) (k := k) (by rw [HL.out]; exact hlt))
        obtain ⟨p, hp⟩ : ∃ p, p = l.getD k (0, 0) := ⟨_, rfl⟩
        rw [← hp] at p0 p1 HSN
        obtain ⟨no, cc⟩ := p
        dsimp only at p0 p1
        have HPA := Aside0.mk (show ∀ w', Below W.heap.size W w' → w'.cell? (ad.add (k * 2)) = some (.int .i64 no) ∧ w'.cell? ⟨(ad.add (k * 2)).block, (ad.add (k * 2)).off + 1, none⟩ = some (.int .u8 cc) from fun w' hb => by
          obtain ⟨ad2, hA2, h0, h1⟩ := atPut (Kd.C_below HC.out hb) k hlt
          injection hA2 with hA2
          subst hA2
          rw [← hp] at h0 h1
          exact ⟨h0, h1⟩)
        have hlo : Go.bits .and .i64 no 7 = low3 no := rfl
        have HLTR := Aside0.mk (Kd.R_lt HRk.out)
        have HWS := Aside0.mk HBk.out.size
        clear hp p0 p1
        go_upto_region 5 with fail
        have hdr : Below wr.heap.size wr wr.drew := below_drew (Below.refl _ _)
        refine start_ (n := 18) (S := fun w' => Below W.heap.size W w') (ds := []) #[false, false, false, false, false, false, false, false, false, false, false, false, false, false, false, false, false, false] (by kernel_rfl) rfl rfl (HBk.out.trans (hdr.mono HBk.out.size)) (fun hHeld => ?_)
        have HRd := Aside0.mk (Kd.R_below HRk.out hdr)
        have HLd := Aside0.mk (show wr.heap.size ≤ wr.drew.heap.size from hdr.size)
        have HPd := Aside0.mk (show ∀ w', Below W.heap.size W w' → w'.cell? (ad.add (k * 2)) = some (.int .i64 no) ∧ w'.cell? ⟨(ad.add (k * 2)).block, (ad.add (k * 2)).off + 1, none⟩ = some (.int .u8 cc) from HPA.out)
        generalize wr.drew = wD at hdr hHeld HRd HLd ⊢
        refine pure_ (i := 0) (N := some 18) (v := ?_) (a' := ?_) #[true, false, false, false, false, false, false, false, false, false, false, false, false, false, false, false, false, false] rfl rfl (by kernel_rfl) (fun _ _ _ h => h) (Or.inl ⟨by rfl, ?_⟩) ?_ ?_
        rotate_left
        · intro w'
          go_simp
          with_reducible rfl
        rotate_left
        · simp only [Act.put, List.setIfInBounds_toArray, List.set_cons_zero, List.set_cons_succ]
          rfl
        refine pure_ (i := 1) (N := some 19) (v := ?_) (a' := ?_) #[true, true, false, false, false, false, false, false, false, false, false, false, false, false, false, false, false, false] rfl rfl (by kernel_rfl) (fun _ _ _ h => h) (Or.inl ⟨by rfl, ?_⟩) ?_ ?_
        rotate_left
        · intro w'
          go_simp
          with_reducible rfl
        rotate_left
        · simp only [Act.put, List.setIfInBounds_toArray, List.set_cons_zero, List.set_cons_succ]
          rfl
        refine pure_ (i := 2) (N := some 20) (v := ?_) (a' := ?_) #[true, true, true, false, false, false, false, false, false, false, false, false, false, false, false, false, false, false] rfl rfl (by kernel_rfl) (fun _ _ _ h => h) (Or.inl ⟨by rfl, ?_⟩) ?_ ?_
        rotate_left
        · intro w'
          go_simp
          with_reducible rfl
        rotate_left
        · simp only [Act.put, List.setIfInBounds_toArray, List.set_cons_zero, List.set_cons_succ]
          rfl
        refine pure_ (i := 3) (N := some 21) (v := .pointer (some (ad.add (k * 2)))) (a' := ?_) #[true, true, true, true, false, false, false, false, false, false, false, false, false, false, false, false, false, false] rfl rfl (by kernel_rfl) (fun _ _ _ h => h) (Or.inl ⟨by rfl, ?_⟩) ?_ ?_
        · intro w'
          first | (go_simp; done) | (go_simp; rw [if_pos (show k < n by omega)])
        rotate_left
        · simp only [Act.put, List.setIfInBounds_toArray, List.set_cons_zero, List.set_cons_succ]
          rfl
        refine pure_ (i := 4) (N := some 22) (v := ?_) (a' := ?_) #[true, true, true, true, true, false, false, false, false, false, false, false, false, false, false, false, false, false] rfl rfl (by kernel_rfl) (fun _ _ _ h => h) (Or.inl ⟨by rfl, ?_⟩) ?_ ?_
        rotate_left
        · intro w'
          go_simp
          with_reducible rfl
        rotate_left
        · simp only [Act.put, List.setIfInBounds_toArray, List.set_cons_zero, List.set_cons_succ]
          rfl
        refine take_ (i := 5) (N := some 23) (v := ?_) (a' := ?_) #[true, true, true, true, true, true, false, false, false, false, false, false, false, false, false, false, false, false] rfl rfl (by kernel_rfl) (fun _ _ _ h => h) (Or.inl ⟨by rfl, ?_⟩) hHeld ?_ ?_
        rotate_left
        · intro w' s0
          have s1 := (HPd.out w' s0).1
          go_simp
          with_reducible rfl
        rotate_left
        · simp only [Act.put, List.setIfInBounds_toArray, List.set_cons_zero, List.set_cons_succ]
          rfl
        refine pure_ (i := 6) (N := some 24) (v := ?_) (a' := ?_) #[true, true, true, true, true, true, true, false, false, false, false, false, false, false, false, false, false, false] rfl rfl (by kernel_rfl) (fun _ _ _ h => h) (Or.inl ⟨by rfl, ?_⟩) ?_ ?_
        rotate_left
        · intro w'
          go_simp
          with_reducible rfl
        rotate_left
        · simp only [Act.put, List.setIfInBounds_toArray, List.set_cons_zero, List.set_cons_succ]
          rfl
        refine pure_ (i := 7) (N := some 25) (v := .int .i64 7) (a' := ?_) #[true, true, true, true, true, true, true, true, false, false, false, false, false, false, false, false, false, false] rfl rfl (by kernel_rfl) (fun _ _ _ h => h) (Or.inl ⟨by rfl, ?_⟩) ?_ ?_
        · intro w'
          first | (go_simp; done) | (go_simp; go_num) | (go_simp; rfl)
        rotate_left
        · simp only [Act.put, List.setIfInBounds_toArray, List.set_cons_zero, List.set_cons_succ]
          rfl
        refine pure_ (i := 8) (N := some 26) (v := .int .i64 (low3 no)) (a' := ?_) #[true, true, true, true, true, true, true, true, true, false, false, false, false, false, false, false, false, false] rfl rfl (by kernel_rfl) (fun _ _ _ h => h) (Or.inl ⟨by rfl, ?_⟩) ?_ ?_
        · intro w'
          first | (go_simp; done) | (go_simp; rfl)
        rotate_left
        · simp only [Act.put, List.setIfInBounds_toArray, List.set_cons_zero, List.set_cons_succ]
          rfl
        refine pure_ (i := 9) (N := some 27) (v := ?_) (a' := ?_) #[true, true, true, true, true, true, true, true, true, true, false, false, false, false, false, false, false, false] rfl rfl (by kernel_rfl) (fun _ _ _ h => h) (Or.inl ⟨by rfl, ?_⟩) ?_ ?_
        rotate_left
        · intro w'
          go_simp
          with_reducible rfl
        rotate_left
        · simp only [Act.put, List.setIfInBounds_toArray, List.set_cons_zero, List.set_cons_succ]
          rfl
        refine pure_ (i := 10) (N := some 28) (v := ?_) (a' := ?_) #[true, true, true, true, true, true, true, true, true, true, true, false, false, false, false, false, false, false] rfl rfl (by kernel_rfl) (fun _ _ _ h => h) (Or.inl ⟨by rfl, ?_⟩) ?_ ?_
        rotate_left
        · intro w'
          go_simp
          with_reducible rfl
        rotate_left
        · simp only [Act.put, List.setIfInBounds_toArray, List.set_cons_zero, List.set_cons_succ]
          rfl
        refine pure_ (i := 11) (N := some 29) (v := .pointer (some (ad.add (k * 2)))) (a' := ?_) #[true, true, true, true, true, true, true, true, true, true, true, true, false, false, false, false, false, false] rfl rfl (by kernel_rfl) (fun _ _ _ h => h) (Or.inl ⟨by rfl, ?_⟩) ?_ ?_
        · intro w'
          first | (go_simp; done) | (go_simp; rw [if_pos (show k < n by omega)])
        rotate_left
        · simp only [Act.put, List.setIfInBounds_toArray, List.set_cons_zero, List.set_cons_succ]
          rfl
        refine pure_ (i := 12) (N := some 30) (v := ?_) (a' := ?_) #[true, true, true, true, true, true, true, true, true, true, true, true, true, false, false, false, false, false] rfl rfl (by kernel_rfl) (fun _ _ _ h => h) (Or.inl ⟨by rfl, ?_⟩) ?_ ?_
        rotate_left
        · intro w'
          go_simp
          with_reducible rfl
        rotate_left
        · simp only [Act.put, List.setIfInBounds_toArray, List.set_cons_zero, List.set_cons_succ]
          rfl
        refine take_ (i := 13) (N := some 31) (v := ?_) (a' := ?_) #[true, true, true, true, true, true, true, true, true, true, true, true, true, true, false, false, false, false] rfl rfl (by kernel_rfl) (fun _ _ _ h => h) (Or.inl ⟨by rfl, ?_⟩) hHeld ?_ ?_
        rotate_left
        · intro w' s0
          have s1 := (HPd.out w' s0).2
          go_simp
          with_reducible rfl
        rotate_left
        · simp only [Act.put, List.setIfInBounds_toArray, List.set_cons_zero, List.set_cons_succ]
          rfl
        refine one_ (i := 14) (N := some 32) #[true, true, true, true, true, true, true, true, true, true, true, true, true, true, true, false, false, false] rfl rfl (by kernel_rfl) (by decide) (fun K1 hK => ?_)
        refine goes_ Try.func25 (by kernel_rfl) rfl #[.int .i64 (low3 no), .int .u8 cc] (by rfl) rfl rfl (by (try simp only [List.map_toArray, List.map_cons, List.map_nil]); first | done | rfl) ?_
        refine (page_c wD (low3 no) cc).mono ?_
        rintro e w5 ⟨A5, c5, rfl, h1, h2⟩
        have HR5 := Aside0.mk (Kd.R_below HRd.out h2)
        have HV5 := Aside0.mk (Kd.R_mono (ok' := fun q => wr.heap.size ≤ q) (Kd.R_bound h1) (fun q hq => Nat.le_trans HLd.out hq.2.1))
        have HV5' := Aside0.mk (Kd.R_lower HV5.out (Nat.le_trans HWS.out HLd.out))
        have hb5 := hHeld.trans (h2.mono hHeld.size)
        refine ⟨_, rfl, ?_⟩
        refine hK.out _ _ hb5 (fun hHeld => ?_)
        clear hK K1 h1 h2
        obtain ⟨w6, hw6⟩ : ∃ w6, w6 = w5.alloc (.cells #[.int .i64 (low3 no), .slice A5 512 c5] 58) := ⟨_, rfl⟩
        have hb56 : Below w5.heap.size w5 w6 := by rw [hw6]; exact below_alloc (Below.refl _ _) _
        refine one_ (i := 15) (N := some 33) #[true, true, true, true, true, true, true, true, true, true, true, true, true, true, true, true, false, false] rfl rfl (by kernel_rfl) (by decide) (fun K1 hK => ?_)
        refine value_ (by rfl) rfl (v := .slice (some ⟨w5.heap.size, 0, none⟩) 1 1) (w1 := w6) (by rw [hw6]; first | (go_simp; done) | (go_simp; rfl)) ?_
        refine hK.out _ _ (hb5.trans (hb56.mono hb5.size)) (fun hHeld => ?_)
        clear hK K1 
        rw [hw6]
        refine one_ (i := 16) (N := some 34) #[true, true, true, true, true, true, true, true, true, true, true, true, true, true, true, true, true, false] rfl rfl (by kernel_rfl) (by decide) (fun K1 hK => ?_)
        refine Kd.R_append_step k58 (w0 := W) (W := w5) W.heap.size (by rfl) (.tmp 18) (.tmp 33) 23 58 (.agg #[.int .i64 0, .slice none 0 0]) 32 rfl Try.underlying23 INF8.out rfl (by decide) (by decide) (.slice yA k yc) ((l.take k).map pageOf) ⟨low3 no, List.replicate 512 cc⟩ [.int .i64 (low3 no), .slice A5 512 c5] tt (fun q => wr.heap.size ≤ q) rfl rfl (k58_mkM w5 W.heap.size (fun q => wr.heap.size ≤ q) ⟨low3 no, List.replicate 512 cc⟩ HV5'.out) (fun q hq => ⟨trivial, fun e => Nat.not_lt.2 hq (HLTR.out q e.symm)⟩) (fun _ _ => trivial) HR5.out hb5 hb5.size ?hl ?_
        case hl => rw [List.length_map, List.length_take]; omega
        intro v7 w7 ho hb7 hG hat
        have HO7 := Aside0.mk ho
        clear ho hG hat
        show K1 (Act.put _ (some 34) _) _
        simp only [Act.put, List.setIfInBounds_toArray, List.set_cons_zero, List.set_cons_succ]
        refine hK.out _ _ hb7 (fun hHeld => ?_)
        clear hK K1 
        refine pure_ (i := 17) (N := some 5) (v := ?_) (a' := ?_) #[true, true, true, true, true, true, true, true, true, true, true, true, true, true, true, true, true, true] rfl rfl (by kernel_rfl) (fun _ _ _ h => h) (Or.inl ⟨by rfl, ?_⟩) ?_ ?_
        rotate_left
        · intro w'
          go_simp
          with_reducible rfl
        rotate_left
        · simp only [Act.put, List.setIfInBounds_toArray, List.set_cons_zero, List.set_cons_succ]
          rfl
        refine done_ (by kernel_rfl) ?_
        go_wp2
        go_roundw
        case rel => exact ⟨k + 1, by omega, by omega, by go_num, ⟨by rw [HSN.out]; exact HO7.out⟩, ⟨hb7⟩⟩
        case measure => simp [intOf]; omega
      · obtain rfl : k = 70 := by omega
        have f2 : decide (((70 : Nat) : Int) < 70) = false := by decide
        go_wp2
        go_ret
        exact ⟨_, rfl, HRk.out, HBk.out⟩
    · obtain rfl : k = n := by omega
      have f1 : decide ((k : Int) < k) = false := decide_eq_false (by omega)
      have hpw : pagesW l = (l.take k).map pageOf := by unfold pagesW; rw [List.take_of_length_le (by rw [HL.out]; omega), List.take_of_length_le (by rw [HL.out]; exact Nat.le_refl _)]
      have HPW := Aside0.mk hpw
      clear hpw
      go_wp2
      go_ret
      exact ⟨_, rfl, by rw [HPW.out]; exact HRk.out, HBk.out⟩
end Go.Proofs.Ytmghgghheebnjaa.Dis
namespace Go.Proofs.Ytmghgghheebnjaa.Dis
open Go.RowKit Go.ChangeShapes Go.WideShapes Go.ChangeAt Go.Deep Go.Joins Go.Proofs.YtmghgghheebnjaaW.PrintWords
set_option linter.unusedVariables false
section
variable {H : Type} {enc : TypeId × Value → H} {P : Program} {w : World} {base : Nat} {spare : Nat → Bool} {held : Bool}
theorem slice_K {α : Type} [Inhabited α] (d : Kd α) {Q : α → DataW H → Prop} {t e : TypeId} {fuel : Nat} {cs : List Value} {x : DataW H × List MemPlace} (ht : P.underlying t = some (.slice e)) (hc : P.cellsOf e = d.sz)
    (hel : ∀ m cs x, DataW.trod enc P w base spare held m e cs = some x → ∃ a, d.K w a cs ∧ Q a x.1)
    (h : DataW.trod enc P w base spare held fuel t cs = some x) :
    ∃ (A : Option Addr) (c : Nat) (l : List α) (el sp : List (DataW H)), cs = [.slice A l.length c] ∧ l.length ≤ c ∧ Kd.C d w A l.length l ∧ el.length = l.length ∧ (∀ a ∈ l, ∃ y ∈ el, Q a y) ∧ (x.1 = .nil ∧ l = [] ∨ x.1 = .slice el sp) := by
  rcases DataW.trod_slice ht h with ⟨rfl, rfl⟩ | ⟨a, len, cap, elems, rest, n, _, rfl, rfl, hb, hl, hm, hlen, hel', _, _⟩
  · exact ⟨none, 0, [], [], [], rfl, Nat.le_refl _, ⟨rfl, by simp, fun h => absurd h (by simp)⟩, rfl, fun a ha => absurd ha (by simp), .inl ⟨rfl, rfl⟩⟩
  · have each : ∀ i, i < len → ∃ p, (∃ cs', w.cells? base (a.add (i * d.sz)) d.sz = some cs' ∧ d.K w p cs') ∧ ∃ y ∈ elems.map (·.1), Q p y := fun i hi => by
      have h1 := hel' i hi
      have hi' : i < elems.length := by omega
      rw [List.getElem?_eq_getElem hi', Option.bind_eq_some_iff, hc] at h1
      obtain ⟨cs', h2, h3⟩ := h1
      obtain ⟨p, hp, hq⟩ := hel _ _ _ h3
      exact ⟨p, ⟨cs', h2, hp⟩, _, List.mem_map.2 ⟨_, List.getElem_mem hi', rfl⟩, hq⟩
    obtain ⟨f, hf⟩ := choose_lt each
    refine ⟨some a, cap, (List.range len).map f, elems.map (·.1), rest.map (·.1), by simp, by simpa using hl, ⟨rfl, by simp only [List.length_map, List.length_range]; simp only [maxLen] at hm; omega, fun _ => ⟨a, rfl, fun j p hj => ?_⟩⟩, by simp [hlen], fun p hp => ?_, .inr rfl⟩
    · obtain ⟨hj1, hj2⟩ := List.getElem?_eq_some_iff.1 hj
      simp only [List.length_map, List.length_range] at hj1
      rw [List.getElem_map, List.getElem_range] at hj2
      subst hj2
      obtain ⟨⟨cs', h2, h3⟩, _⟩ := hf j hj1
      refine ⟨cs', d.K_len h3, h3, fun i u hi => ?_⟩
      obtain ⟨hi1, hi2⟩ := List.getElem?_eq_some_iff.1 hi
      have h4 := (World.cells?_some h2).2.2 i (by rw [← d.K_len h3]; exact hi1)
      rw [Go.Proofs.YtmghgghheebnjaaW.PrintWords.add_add] at h4
      rw [h4, hi]
    · obtain ⟨j, hj, rfl⟩ := List.mem_map.1 hp
      exact (hf j (List.mem_range.1 hj)).2
theorem weights_mem {t : TypeId} : ∀ {el : List (DataW H)} {y : DataW H}, y ∈ el → ∀ n ∈ y.weights P t, n ∈ DataW.weightsAll P t el
  | d :: r, y, hy, n, hn => by
    simp only [DataW.weightsAll, List.mem_append]
    rcases List.mem_cons.1 hy with rfl | hy
    · exact .inl hn
    · exact .inr (weights_mem hy n hn)
theorem slice_sized {R : Nat} {t e : TypeId} {el sp : List (DataW H)} (ht : P.underlying t = some (.slice e)) (h : ((DataW.slice el sp).weights P t).all (· ≤ R) = true) :
    el.length * P.bytesOf e ≤ R ∧ ∀ y ∈ el, (y.weights P e).all (· ≤ R) = true := by
  have h' := List.all_eq_true.1 h
  have e1 : (DataW.slice el sp).weights P t = (el.length + sp.length) * P.bytesOf e :: (DataW.weightsAll P e el ++ DataW.weightsAll P e sp) := by simp [DataW.weights, ht]
  rw [e1] at h'
  refine ⟨?_, fun y hy => List.all_eq_true.2 fun n hn => h' n (List.mem_cons_of_mem _ (List.mem_append.2 (.inl (weights_mem hy n hn))))⟩
  have := h' _ List.mem_cons_self
  exact Nat.le_trans (Nat.mul_le_mul_right _ (Nat.le_add_right _ _)) (by simpa using this)
end
section
variable {H : Type} {enc : TypeId × Value → H} {w : World} {base : Nat} {spare : Nat → Bool} {held : Bool}
theorem bytes_K {fuel : Nat} {cs : List Value} {x : DataW H × List MemPlace} (h : DataW.trod enc Try.prog w base spare held fuel 56 cs = some x) :
    ∃ (A : Option Addr) (c : Nat) (l : List Int), cs = [.slice A l.length c] ∧ l.length ≤ c ∧ Kd.C (Kd.int .u8) w A l.length l ∧ OkB l ∧ ∀ R, (x.1.weights Try.prog 56).all (· ≤ R) = true → l.length ≤ R := by
  obtain ⟨A, c, l, el, sp, h1, h2, h3, h4, h5, h6⟩ := slice_K (P := Try.prog) (Kd.int .u8) (Q := fun n _ => 0 ≤ n ∧ n < 256) Try.underlying56 (by kernel_rfl) (fun m cs x hx => by
    obtain ⟨n, rfl, _, hw⟩ := DataW.trod_int Try.underlying5 hx
    have := bounds_u8 hw
    exact ⟨n, rfl, by omega⟩) h
  refine ⟨A, c, l, h1, h2, h3, fun n hn => (h5 n hn).elim fun _ hq => hq.2, fun R hR => ?_⟩
  rcases h6 with ⟨_, rfl⟩ | h6
  · exact Nat.zero_le _
  · rw [h6] at hR
    have := (slice_sized Try.underlying56 hR).1
    rw [show Try.prog.bytesOf 5 = 1 by kernel_rfl, h4] at this
    omega
theorem bools_K {fuel : Nat} {cs : List Value} {x : DataW H × List MemPlace} (h : DataW.trod enc Try.prog w base spare held fuel 44 cs = some x) :
    ∃ (A : Option Addr) (c : Nat) (l : List Bool), cs = [.slice A l.length c] ∧ l.length ≤ c ∧ Kd.C Kd.bool w A l.length l ∧ ∀ R, (x.1.weights Try.prog 44).all (· ≤ R) = true → l.length ≤ R := by
  obtain ⟨A, c, l, el, sp, h1, h2, h3, h4, h5, h6⟩ := slice_K (P := Try.prog) Kd.bool (Q := fun _ _ => True) Try.underlying44 (by kernel_rfl) (fun m cs x hx => by
    obtain ⟨n, rfl, _⟩ := DataW.trod_bool Try.underlying4 hx
    exact ⟨n, rfl, trivial⟩) h
  refine ⟨A, c, l, h1, h2, h3, fun R hR => ?_⟩
  rcases h6 with ⟨_, rfl⟩ | h6
  · exact Nat.zero_le _
  · rw [h6] at hR
    have := (slice_sized Try.underlying44 hR).1
    rw [show Try.prog.bytesOf 4 = 1 by kernel_rfl, h4] at this
    omega
end
end Go.Proofs.Ytmghgghheebnjaa.Dis
namespace Go.Proofs.Ytmghgghheebnjaa.Dis
open Go.RowKit Go.ChangeShapes Go.WideShapes Go.ChangeAt Go.Deep Go.Joins Go.Proofs.YtmghgghheebnjaaW.PrintWords
set_option linter.unusedVariables false
/-- An act: its puts, the call with which the power goes, what stays. -/
abbrev Act_ := List Put_ × Int × List Bool
def actK : Kd Act_ := Kd.pair (Kd.slice 61 putK) (Kd.pair (Kd.int .i64) (Kd.slice 4 Kd.bool))
def act0 : Act_ := ([], 0, [])
def OkP (p : Put_) : Prop := I64 p.1 ∧ 0 ≤ p.2 ∧ p.2 < 256
structure OkA (a : Act_) (R : Nat) : Prop where
  puts : ∀ p ∈ a.1, OkP p
  many : a.1.length ≤ R
  arm : I64 a.2.1
  keep : a.2.2.length ≤ R
section
variable {H : Type} {enc : TypeId × Value → H} {w : World} {base : Nat} {spare : Nat → Bool} {held : Bool}
set_option maxRecDepth 100000 in
theorem put_K {m : Nat} {cs : List Value} {x : DataW H × List MemPlace} (h : DataW.trod enc Try.prog w base spare held m 61 cs = some x) : ∃ a : Put_, putK.K w a cs ∧ OkP a := by
  obtain ⟨y0, y1, n, rfl, hl, h0, h1⟩ := trod_struct2 Try.underlying61 h
  have hl2 : cs.length = 2 := hl.trans (by kernel_rfl)
  obtain ⟨c0, c1, rfl⟩ : ∃ c0 c1, cs = [c0, c1] := by
    match cs, hl2 with
    | [c0, c1], _ => exact ⟨c0, c1, rfl⟩
  have k3 : Try.prog.cellsOf 3 = 1 := by kernel_rfl
  have k5 : Try.prog.cellsOf 5 = 1 := by kernel_rfl
  simp only [k3, k5, List.drop_zero, List.drop_succ_cons, List.take_succ_cons, List.take_zero] at h0 h1
  obtain ⟨x0, e0, _, w0⟩ := DataW.trod_int Try.underlying3 h0
  obtain ⟨x1, e1, _, w1⟩ := DataW.trod_int Try.underlying5 h1
  have b0 := bounds_i64 w0
  have b1 := bounds_u8 w1
  exact ⟨(x0, x1), ⟨[c0], [c1], rfl, e0, e1⟩, ⟨b0.1, b0.2⟩, b1.1, by omega⟩
theorem puts_K {fuel : Nat} {cs : List Value} {x : DataW H × List MemPlace} (h : DataW.trod enc Try.prog w base spare held fuel 43 cs = some x) :
    ∃ (A : Option Addr) (c : Nat) (l : List Put_), cs = [.slice A l.length c] ∧ l.length ≤ c ∧ Kd.C putK w A l.length l ∧ (∀ p ∈ l, OkP p) ∧ ∀ R, (x.1.weights Try.prog 43).all (· ≤ R) = true → l.length ≤ R := by
  obtain ⟨A, c, l, el, sp, h1, h2, h3, h4, h5, h6⟩ := slice_K (P := Try.prog) putK (Q := fun n _ => OkP n) Try.underlying43 (by kernel_rfl) (fun m cs x hx => by
    obtain ⟨a, ha, hb⟩ := put_K hx
    exact ⟨a, ha, hb⟩) h
  refine ⟨A, c, l, h1, h2, h3, fun n hn => (h5 n hn).elim fun _ hq => hq.2, fun R hR => ?_⟩
  rcases h6 with ⟨_, rfl⟩ | h6
  · exact Nat.zero_le _
  · rw [h6] at hR
    have := (slice_sized Try.underlying43 hR).1
    rw [show Try.prog.bytesOf 61 = 16 by kernel_rfl, h4] at this
    omega
set_option maxRecDepth 100000 in
theorem act_K {m : Nat} {cs : List Value} {x : DataW H × List MemPlace} (h : DataW.trod enc Try.prog w base spare held m 46 cs = some x) :
    ∃ a : Act_, actK.K w a cs ∧ ∀ R, (x.1.weights Try.prog 46).all (· ≤ R) = true → OkA a R := by
  obtain ⟨y0, y1, y2, n, rfl, hl, h0, h1, h2⟩ := trod_struct3 Try.underlying46 h
  have hl3 : cs.length = 3 := hl.trans (by kernel_rfl)
  obtain ⟨c0, c1, c2, rfl⟩ : ∃ c0 c1 c2, cs = [c0, c1, c2] := by
    match cs, hl3 with
    | [c0, c1, c2], _ => exact ⟨c0, c1, c2, rfl⟩
  have k3 : Try.prog.cellsOf 3 = 1 := by kernel_rfl
  have k43 : Try.prog.cellsOf 43 = 1 := by kernel_rfl
  have k44 : Try.prog.cellsOf 44 = 1 := by kernel_rfl
  simp only [k3, k43, k44, List.drop_zero, List.drop_succ_cons, List.take_succ_cons, List.take_zero] at h0 h1 h2
  obtain ⟨A0, c0', l0, e0, hc0, hC0, ho0, hs0⟩ := puts_K h0
  obtain ⟨x1, e1, _, w1⟩ := DataW.trod_int Try.underlying3 h1
  obtain ⟨A2, c2', l2, e2, hc2, hC2, hs2⟩ := bools_K h2
  refine ⟨(l0, x1, l2), ⟨[c0], [c1, c2], rfl, ⟨A0, c0', e0, hc0, hC0⟩, [c1], [c2], rfl, e1, ⟨A2, c2', e2, hc2, hC2⟩⟩, fun R hR => ?_⟩
  have e : (DataW.agg [y0.1, y1.1, y2.1]).weights Try.prog 46 = y0.1.weights Try.prog 43 ++ (y1.1.weights Try.prog 3 ++ (y2.1.weights Try.prog 44 ++ [])) := by
    simp [DataW.weights, DataW.weightsEach, Try.underlying46]
  rw [e, List.all_append, List.all_append, List.all_append, Bool.and_eq_true, Bool.and_eq_true, Bool.and_eq_true] at hR
  have b1 := bounds_i64 w1
  exact ⟨ho0, hs0 R hR.1, ⟨b1.1, b1.2⟩, hs2 R hR.2.2.1⟩
theorem acts_K {fuel : Nat} {cs : List Value} {x : DataW H × List MemPlace} (h : DataW.trod enc Try.prog w base spare held fuel 34 cs = some x) :
    ∃ (A : Option Addr) (c : Nat) (l : List Act_), cs = [.slice A l.length c] ∧ l.length ≤ c ∧ Kd.C actK w A l.length l ∧ ∀ R, (x.1.weights Try.prog 34).all (· ≤ R) = true → l.length ≤ R ∧ ∀ a ∈ l, OkA a R := by
  obtain ⟨A, c, l, el, sp, h1, h2, h3, h4, h5, h6⟩ := slice_K (P := Try.prog) actK (Q := fun a y => ∀ R, (y.weights Try.prog 46).all (· ≤ R) = true → OkA a R) Try.underlying34 (by kernel_rfl) (fun m cs x hx => act_K hx) h
  refine ⟨A, c, l, h1, h2, h3, fun R hR => ?_⟩
  rcases h6 with ⟨_, rfl⟩ | h6
  · exact ⟨Nat.zero_le _, fun a ha => absurd ha (by simp)⟩
  · rw [h6] at hR
    have hs := slice_sized Try.underlying34 hR
    rw [show Try.prog.bytesOf 46 = 56 by kernel_rfl, h4] at hs
    exact ⟨by omega, fun a ha => (h5 a ha).elim fun y hy => hy.2 R (hs.2 y hy.1)⟩
end
/-- An act of a row. -/
theorem act_at {w : World} {A : Option Addr} {n : Nat} {l : List Act_} (h : actK.C w A n l) (k : Nat) (hk : k < n) :
    ∃ ad A0 c0 A2 c2, A = some ad ∧ w.cell? (ad.add (k * 3)) = some (.slice A0 (l.getD k act0).1.length c0) ∧ w.cell? ⟨(ad.add (k * 3)).block, (ad.add (k * 3)).off + 1, none⟩ = some (.int .i64 (l.getD k act0).2.1) ∧ w.cell? ⟨(ad.add (k * 3)).block, (ad.add (k * 3)).off + 2, none⟩ = some (.slice A2 (l.getD k act0).2.2.length c2) ∧
      (l.getD k act0).1.length ≤ c0 ∧ Kd.C putK w A0 (l.getD k act0).1.length (l.getD k act0).1 ∧ (l.getD k act0).2.2.length ≤ c2 ∧ Kd.C Kd.bool w A2 (l.getD k act0).2.2.length (l.getD k act0).2.2 := by
  obtain ⟨ad, c, e, _, hK, hc0⟩ := Kd.C_get h act0 (k : Int) (by omega) (by omega)
  have hc : ∀ j u, c[j]? = some u → w.cell? (ad.add (k * 3 + j)) = some u := fun j u hj => by have := hc0 j u hj; rwa [Int.toNat_natCast] at this
  rw [Int.toNat_natCast] at hK
  obtain ⟨_, _, rfl, ⟨A0, c0, rfl, hl0, hC0⟩, _, _, rfl, rfl, ⟨A2, c2, rfl, hl2, hC2⟩⟩ := hK
  exact ⟨ad, A0, c0, A2, c2, e, hc 0 _ rfl, by rw [← add_field _ _ 1 (by omega)]; exact hc 1 _ rfl, by rw [← add_field _ _ 2 (by omega)]; exact hc 2 _ rfl, hl0, hC0, hl2, hC2⟩
end Go.Proofs.Ytmghgghheebnjaa.Dis
namespace Go.Proofs.Ytmghgghheebnjaa.Dis
open Go.RowKit Go.Proofs.YtmghgghheebnjaaW.PrintWords Go.Proofs.YtmghgghheebnjaaW.PrintLast Go.Proofs.YtmghgghheebnjaaW.PrintMore Go.Maps Go.Proofs.Ytmghgghheebnjaa.PWalRecords
set_option linter.unusedVariables false
set_option linter.unusedSimpArgs false
/-- Opening with power: the log stays. -/
theorem open_live {d : D} (h : Live d) (hs : d.since = []) (hn : 64 < d.n) (hsec : ∀ i, Sec (d.fast i)) : ∃ d1 : D, openD d = (d1, seqTo d 64, 0) ∧ Live d1 ∧ d1.since = [] ∧ d1.n = d.n ∧ d1.cnt ≤ d.cnt + 64 ∧ ∀ i : Nat, i < 64 → d1.fast (i : Int) = d.fast (i : Int) := by
  have hb : ∀ s ∈ logF d.fast, BytesOk s := by
    intro s hs
    unfold logF at hs
    obtain ⟨k, _, rfl⟩ := List.mem_map.1 hs
    exact (hsec _).2
  obtain ⟨F, hF⟩ : ∃ F, F = (pagesOf (logF d.fast)).filter (fun p => thereB d.n p.f0) := ⟨_, rfl⟩
  have hFp : ∀ p ∈ F, thereB d.n p.f0 = true ∧ p.f1.length = 512 := by
    intro p hp
    rw [hF] at hp
    have h1 := List.mem_filter.1 hp
    exact ⟨h1.2, (pagesOf_ok hb p h1.1).2.2.2⟩
  have hFl : F.length ≤ 64 := by
    rw [hF]
    refine Nat.le_trans (List.length_filter_le _ _) ?_
    unfold pagesOf
    split
    · rename_i hh
      unfold outS
      rw [List.length_map, List.length_range]
      exact hh.m64
    · simp
  obtain ⟨c1, hw1, hc1⟩ := writesD_live h hs hFp
  refine ⟨{ d with fast := applyW (pgW F) d.fast, cnt := c1 }, by rw [openD_live h hs hn, ← hF, hw1], h, hs, rfl, by show c1 ≤ _; omega, fun i hi => ?_⟩
  refine applyW_out _ _ _ (fun x hx => ?_)
  obtain ⟨p, hp, rfl⟩ := List.mem_map.1 hx
  have := of_decide_eq_true (hFp p hp).1
  show 64 + p.f0 ≠ (i : Int)
  omega
theorem callD_or (d : D) : (callD d).2 = 0 ∨ (callD d).2 = 190 := callD_e d
/-- Writes on any disk: a first part of them is there. -/
theorem wrD_any : ∀ (xs : List (Int × List Int)) (d : D), (∀ x ∈ xs, 0 ≤ x.1 ∧ x.1 < d.n ∧ x.2.length = 512) → ∃ j, (wrD d xs).1.fast = d.fast ∧ (wrD d xs).1.n = d.n ∧ (wrD d xs).1.since = d.since ++ xs.take j ∧ ((wrD d xs).2 = 0 → xs.take j = xs) ∧ (wrD d xs).1.cnt ≤ d.cnt + xs.length := by
  intro xs
  induction xs with
  | nil => intro d _; exact ⟨0, rfl, rfl, by simp [wrD], fun _ => rfl, by simp [wrD]⟩
  | cons x xs ih =>
    intro d hx
    have h1 := hx x List.mem_cons_self
    have hp : pad x.2 = x.2 := by unfold pad; rw [h1.2.2]; simp
    have hcn := callD_cnt d
    have hcf := callD_fast d
    have hcs := callD_since d
    have hcl := callD_n d
    unfold wrD
    rcases callD_or d with hc | hc
    · have ht : thereD (callD d).1 x.1 = 0 := by unfold thereD; rw [hcl, if_neg (by omega), if_neg (by omega)]
      have hw : writeD d x.1 x.2 = ({ (callD d).1 with since := (callD d).1.since ++ [(x.1, x.2)], cnt := (callD d).1.cnt + 1 }, 0) := by
        unfold writeD
        rw [if_neg (by rw [hc]; exact fun h => h rfl), if_neg (by rw [ht]; exact fun h => h rfl), if_neg (by omega), hp]
      rw [hw, if_pos rfl]
      obtain ⟨j, a1, a2, a3, a4, a5⟩ := ih { (callD d).1 with since := (callD d).1.since ++ [(x.1, x.2)], cnt := (callD d).1.cnt + 1 } (fun y hy => by have := hx y (List.mem_cons_of_mem _ hy); exact ⟨this.1, by show y.1 < (callD d).1.n; rw [hcl]; exact this.2.1, this.2.2⟩)
      refine ⟨j + 1, by rw [a1]; exact hcf, by rw [a2]; exact hcl, ?_, fun h => by rw [List.take_succ_cons, a4 h], ?_⟩
      · rw [a3]
        show (callD d).1.since ++ [(x.1, x.2)] ++ xs.take j = _
        rw [hcs, List.append_assoc]
        rfl
      · have a6 : _ ≤ (callD d).1.cnt + 1 + xs.length := a5
        have a7 := hcn
        refine Nat.le_trans a6 ?_
        rw [List.length_cons]
        omega
    · have hw : writeD d x.1 x.2 = ((callD d).1, 190) := by
        unfold writeD
        rw [if_pos (by rw [hc]; decide), hc]
      rw [hw, if_neg (fun h => absurd (h : (190 : Int) = 0) (by decide))]
      exact ⟨0, hcf, hcl, by rw [List.take_zero, List.append_nil]; exact hcs, fun h => absurd (show (190 : Int) = 0 from h) (by decide), by show (callD d).1.cnt ≤ _; omega⟩
theorem flushD_any (d : D) : ((flushD d).2 = 0 ∧ (flushD d).1.fast = applyW d.since d.fast ∧ (flushD d).1.since = [] ∧ (flushD d).1.n = d.n ∧ (flushD d).1.cnt = d.cnt) ∨ ((flushD d).2 ≠ 0 ∧ (flushD d).1.fast = d.fast ∧ (flushD d).1.since = d.since ∧ (flushD d).1.n = d.n ∧ (flushD d).1.cnt = d.cnt) := by
  unfold flushD
  rcases callD_or d with hc | hc
  · left
    rw [if_pos hc]
    refine ⟨rfl, ?_, rfl, callD_n d, callD_cnt d⟩
    show keptTo (fun _ => true) (callD d).1.since (callD d).1.fast (callD d).1.since.length = _
    rw [keptTo_all _ _ _ (Nat.le_refl _), List.take_of_length_le (Nat.le_refl _), callD_since, callD_fast]
  · right
    rw [if_neg (by rw [hc]; decide)]
    exact ⟨by rw [hc]; decide, callD_fast d, callD_since d, callD_n d, callD_cnt d⟩
theorem writesD_any {d : D} (hs : d.since = []) {l : List S58} (hp : ∀ p ∈ l, thereB d.n p.f0 = true ∧ p.f1.length = 512) : (∀ x ∈ (writesD d l).1.since, 64 ≤ x.1) ∧ (∀ i : Int, i < 64 → (writesD d l).1.fast i = d.fast i) ∧ (writesD d l).1.n = d.n ∧ (writesD d l).1.cnt ≤ d.cnt + l.length := by
  have hx : ∀ x ∈ pgW l, 0 ≤ x.1 ∧ x.1 < d.n ∧ x.2.length = 512 ∧ 64 ≤ x.1 := by
    intro x hx
    obtain ⟨p, hpm, rfl⟩ := List.mem_map.1 hx
    have h1 := hp p hpm
    have h2 := of_decide_eq_true h1.1
    exact ⟨by show 0 ≤ 64 + p.f0; omega, by show 64 + p.f0 < d.n; omega, h1.2, by show 64 ≤ 64 + p.f0; omega⟩
  obtain ⟨j, a1, a2, a3, a4, a5⟩ := wrD_any (pgW l) d (fun x h => ⟨(hx x h).1, (hx x h).2.1, (hx x h).2.2.1⟩)
  have hl : (pgW l).length = l.length := by unfold pgW; simp
  rw [hl] at a5
  rw [hs, List.nil_append] at a3
  have hsi : ∀ x ∈ (wrD d (pgW l)).1.since, 64 ≤ x.1 := fun x h => by rw [a3] at h; exact (hx x (List.mem_of_mem_take h)).2.2.2
  unfold writesD
  split
  · split
    · exact ⟨hsi, ⟨fun i _ => by rw [a1], a2, a5⟩⟩
    · rcases flushD_any (wrD d (pgW l)).1 with ⟨_, b1, b2, b3, b4⟩ | ⟨_, b1, b2, b3, b4⟩
      · refine ⟨fun x h => absurd (b2 ▸ h : x ∈ []) (by simp), fun i hi => ?_, b3.trans a2, Nat.le_trans (Nat.le_of_eq b4) a5⟩
        rw [b1, applyW_out _ _ _ (fun x h e => by have := hsi x h; omega), a1]
      · exact ⟨fun x h => by rw [b2] at h; exact hsi x h, fun i _ => by rw [b1, a1], by rw [b3, a2], by rw [b4]; exact a5⟩
  · exact ⟨hsi, fun i _ => by rw [a1], a2, a5⟩
/-- A commit on any disk. -/
theorem commit_any {d : D} (hs : d.since = []) (hn : 64 < d.n) {s : Int} (h0 : 0 ≤ s) (h1 : s < 18446744073709551616) {l : List S58} (hp : ∀ p ∈ l, thereB d.n p.f0 = true ∧ p.f1.length = 512 ∧ BytesOk p.f1) :
    (commitD d s l).1.n = d.n ∧ (commitD d s l).1.cnt ≤ d.cnt + 128 ∧ ((commitD d s l).2.2 = 0 → l ≠ [] → (commitD d s l).2.1 = s + 1) ∧
    (((commitD d s l).2.1 = s ∧ (commitD d s l).1.fast = d.fast ∧ ∀ x ∈ (commitD d s l).1.since, numB (x.2.take 8) = s + 1) ∨
     ((commitD d s l).2.1 = s + 1 ∧ s + 1 < 18446744073709551616 ∧ numB (((commitD d s l).1.fast 0).take 8) = s + 1 ∧ (∀ i : Nat, i < 64 → (commitD d s l).1.fast (i : Int) = d.fast (i : Int) ∨ numB (((commitD d s l).1.fast (i : Int)).take 8) = s + 1) ∧ ∀ x ∈ (commitD d s l).1.since, 64 ≤ x.1)) := by
  have early : ∀ e : Int, e ≠ 0 → ((d, s, e) : D × Int × Int).1.n = d.n ∧ ((d, s, e) : D × Int × Int).1.cnt ≤ d.cnt + 128 ∧ (((d, s, e) : D × Int × Int).2.2 = 0 → l ≠ [] → ((d, s, e) : D × Int × Int).2.1 = s + 1) ∧
      ((((d, s, e) : D × Int × Int).2.1 = s ∧ ((d, s, e) : D × Int × Int).1.fast = d.fast ∧ ∀ x ∈ ((d, s, e) : D × Int × Int).1.since, numB (x.2.take 8) = s + 1) ∨
     (((d, s, e) : D × Int × Int).2.1 = s + 1 ∧ s + 1 < 18446744073709551616 ∧ numB ((((d, s, e) : D × Int × Int).1.fast 0).take 8) = s + 1 ∧ (∀ i : Nat, i < 64 → ((d, s, e) : D × Int × Int).1.fast (i : Int) = d.fast (i : Int) ∨ numB ((((d, s, e) : D × Int × Int).1.fast (i : Int)).take 8) = s + 1) ∧ ∀ x ∈ ((d, s, e) : D × Int × Int).1.since, 64 ≤ x.1)) := fun e he =>
    ⟨rfl, Nat.le_add_right _ _, fun h => absurd h he, .inl ⟨rfl, rfl, fun x hx => by rw [show ((d, s, e) : D × Int × Int).1.since = [] from hs] at hx; cases hx⟩⟩
  unfold commitD
  split
  · exact early 1 (by decide)
  split
  · rename_i hl
    refine ⟨rfl, Nat.le_add_right _ _, fun _ h => absurd (List.eq_nil_of_length_eq_zero hl) h, .inl ⟨rfl, rfl, fun x hx => ?_⟩⟩
    rw [show ((d, s, (0 : Int)) : D × Int × Int).1.since = [] from hs] at hx
    cases hx
  split
  · exact early 8 (by decide)
  rename_i hmx
  split
  · rename_i he
    exact early _ he
  rename_i he
  have he' : recE (s + 1) l = 0 := Classical.byContradiction he
  have hr := recE_0 he'
  have hrs := recS_ok (seq := s + 1) (l := l) (fun p hpm => (hp p hpm).2.2)
  have hN := recS_len (s + 1) l
  have hsq : ∀ x ∈ enumW 0 (recS (s + 1) l), numB (x.2.take 8) = s + 1 ∧ 0 ≤ x.1 ∧ x.1 < 64 := by
    intro x hx
    have h2 := enumW_mem _ 0 x hx
    obtain ⟨i, _, hi⟩ := List.mem_map.1 h2.2.2
    refine ⟨?_, by have := h2.1; omega, by have := h2.2.1; omega⟩
    rw [← hi, sect_parts.1]
    exact numB_big _ 8 (by omega) (by have : (256 : Int) ^ 8 = 18446744073709551616 := by decide
                                      omega)
  obtain ⟨j, a1, a2, a3, a4, a5⟩ := wrD_any (enumW 0 (recS (s + 1) l)) d (fun x hx => by
    have h2 := enumW_mem _ 0 x hx
    exact ⟨(hsq x hx).2.1, by have := (hsq x hx).2.2; omega, (hrs _ h2.2.2).1⟩)
  rw [hs, List.nil_append] at a3
  rw [enumW_len] at a5
  have hsi : ∀ x ∈ (wrD d (enumW 0 (recS (s + 1) l))).1.since, numB (x.2.take 8) = s + 1 := fun x h => by rw [a3] at h; exact (hsq x (List.mem_of_mem_take h)).1
  split
  · rename_i h2
    exact ⟨a2, by show (wrD d (enumW 0 (recS (s + 1) l))).1.cnt ≤ _; omega, fun h => absurd h h2, .inl ⟨rfl, a1, hsi⟩⟩
  rename_i h2
  have h2' : (wrD d (enumW 0 (recS (s + 1) l))).2 = 0 := Classical.byContradiction h2
  rcases flushD_any (wrD d (enumW 0 (recS (s + 1) l))).1 with ⟨b0, b1, b2, b3, b4⟩ | ⟨b0, b1, b2, b3, b4⟩
  · rw [if_neg (by rw [b0]; exact fun h => h rfl)]
    obtain ⟨c1, c2, c3, c4⟩ := writesD_any (d := (flushD (wrD d (enumW 0 (recS (s + 1) l))).1).1) b2 (l := l) (fun p hpm => by rw [b3, a2]; exact ⟨(hp p hpm).1, (hp p hpm).2.1⟩)
    have hat : ∀ i : Nat, i < 64 → (writesD (flushD (wrD d (enumW 0 (recS (s + 1) l))).1).1 l).1.fast (i : Int) = if i < (recS (s + 1) l).length then (recS (s + 1) l).getD i [] else d.fast (i : Int) := by
      intro i hi
      rw [c2 (i : Int) (by omega), b1, a3, a4 h2', a1, applyW_enum]
      by_cases hlt : i < (recS (s + 1) l).length
      · rw [if_pos hlt, if_pos (by omega)]
        show (recS (s + 1) l).getD ((i : Int) - ((0 : Nat) : Int)).toNat [] = _
        rw [show ((i : Int) - ((0 : Nat) : Int)).toNat = i by omega]
      · rw [if_neg hlt, if_neg (by omega)]
    have hnum : ∀ i : Nat, i < (recS (s + 1) l).length → numB (((recS (s + 1) l).getD i []).take 8) = s + 1 := by
      intro i hi
      have h3 := recS_at (s + 1) l [] (i := i) (by rw [← hN]; exact hi)
      rw [List.append_nil] at h3
      rw [h3, sect_parts.1]
      exact numB_big _ 8 (by omega) (by have : (256 : Int) ^ 8 = 18446744073709551616 := by decide
                                        omega)
    have hN1 : 1 ≤ secsN l.length := by unfold secsN; omega
    refine ⟨by show (writesD _ l).1.n = _; rw [c3, b3, a2], by show (writesD _ l).1.cnt ≤ _; rw [b4] at c4; omega, fun _ _ => rfl, .inr ⟨rfl, by omega, ?_, fun i hi => ?_, c1⟩⟩
    · show numB (((writesD _ l).1.fast ((0 : Nat) : Int)).take 8) = s + 1
      rw [hat 0 (by decide), if_pos (by rw [hN]; omega)]
      exact hnum 0 (by rw [hN]; omega)
    · show (writesD _ l).1.fast (i : Int) = _ ∨ numB (((writesD _ l).1.fast (i : Int)).take 8) = s + 1
      rw [hat i hi]
      by_cases hlt : i < (recS (s + 1) l).length
      · rw [if_pos hlt]; exact .inr (hnum i hlt)
      · rw [if_neg hlt]; exact .inl rfl
  · rw [if_pos b0]
    exact ⟨by show (flushD _).1.n = _; rw [b3, a2], by show (flushD _).1.cnt ≤ _; rw [b4]; omega, fun h => absurd h b0, .inl ⟨rfl, by show (flushD _).1.fast = _; rw [b1, a1], fun x h => hsi x (by rw [← b2]; exact h)⟩⟩
theorem keptTo_or (F : Nat → Bool) (l : List (Int × List Int)) (f : Int → List Int) (i : Int) : ∀ k, k ≤ l.length → keptTo F l f k i = f i ∨ ∃ x ∈ l, x.1 = i ∧ keptTo F l f k i = x.2 := by
  intro k
  induction k with
  | zero => intro _; exact .inl rfl
  | succ k ih =>
    intro hk
    unfold keptTo
    split
    · have hm : l.getD k (0, zeros) ∈ l := by rw [List.getD_eq_getElem?_getD, List.getElem?_eq_getElem (by omega)]; exact List.getElem_mem _
      generalize l.getD k (0, zeros) = x at hm
      unfold upd
      by_cases e : i = x.1
      · rw [if_pos e]; exact .inr ⟨x, hm, e.symm, rfl⟩
      · rw [if_neg e]; exact ih (by omega)
    · exact ih (by omega)
theorem seqTo_hit {d : D} : ∀ k, seqTo d k = 0 ∨ ∃ i, i < k ∧ numB ((rdRow d i).take 8) = seqTo d k := by
  intro k
  induction k with
  | zero => exact .inl rfl
  | succ k ih =>
    unfold seqTo
    split
    · exact .inr ⟨k, by omega, rfl⟩
    · rcases ih with h | ⟨i, hi, h⟩
      · exact .inl h
      · exact .inr ⟨i, by omega, h⟩
/-- One round of WalSeqs. -/
theorem seqs_step {d : D} (h : Live d) (hs : d.since = []) (hn : 64 < d.n) (hsec : ∀ i, Sec (d.fast i)) {l : List S58} (hp : ∀ p ∈ l, thereB d.n p.f0 = true ∧ p.f1.length = 512 ∧ BytesOk p.f1) (arm : Int) (keep : List Bool) :
    ∃ (d1 d2 d3 : D) (s s' e : Int), openD d = (d1, s, 0) ∧ s = seqTo d 64 ∧ 0 ≤ s ∧ s < 18446744073709551616 ∧ d1.cnt ≤ d.cnt + 64 ∧ commitD (armD d1 arm) s l = (d2, s', e) ∧ (e = 0 → l ≠ [] → s' = s + 1) ∧ (s' = s ∨ (s' = s + 1 ∧ s + 1 < 18446744073709551616)) ∧ d2.cnt ≤ d.cnt + 192 ∧
      crashD d2 keep = d3 ∧ Live d3 ∧ d3.since = [] ∧ d3.n = d.n ∧ d3.cnt ≤ d.cnt + 192 ∧ s' ≤ seqTo d3 64 ∧ seqTo d3 64 ≤ s + 1 := by
  obtain ⟨d1, ho, hl1, hs1, hn1, hc1, hlow⟩ := open_live h hs hn hsec
  have hb := seqTo_bound (d := d) (fun k hk _ => by rw [(rd_live h hs hn hk).1]; exact hsec _) 64 (Nat.le_refl _) (fun i hi => (rd_live h hs hn hi).2)
  obtain ⟨c1, c2, c3, c4⟩ := commit_any (d := armD d1 arm) hs1 (by show 64 < d1.n; rw [hn1]; exact hn) hb.1 hb.2 (l := l) (fun p hpm => by show thereB d1.n p.f0 = true ∧ _; rw [hn1]; exact hp p hpm)
  obtain ⟨r, hr⟩ : ∃ r, r = commitD (armD d1 arm) (seqTo d 64) l := ⟨_, rfl⟩
  rw [← hr] at c1 c2 c3 c4
  obtain ⟨d2, s', e⟩ := r
  dsimp only at c1 c2 c3 c4
  have hn3 : (crashD d2 keep).n = d.n := by show d2.n = _; rw [c1]; exact hn1
  have hl3 : Live (crashD d2 keep) := ⟨rfl, rfl⟩
  have hs3 : (crashD d2 keep).since = [] := rfl
  have hf3 : (crashD d2 keep).fast = keptTo (kept keep) d2.since d2.fast d2.since.length := rfl
  have hc2' : d2.cnt ≤ d.cnt + 192 := by have : (armD d1 arm).cnt = d1.cnt := rfl; omega
  refine ⟨d1, d2, _, seqTo d 64, s', e, ho, rfl, hb.1, hb.2, hc1, hr.symm, c3, ?_, hc2', rfl, hl3, hs3, hn3, by show d2.cnt ≤ _; exact hc2', ?_, ?_⟩
  · rcases c4 with ⟨h1, _⟩ | ⟨h1, h2, _⟩
    · exact .inl h1
    · exact .inr ⟨h1, h2⟩
  · rcases c4 with ⟨h1, h2, h3⟩ | ⟨h1, h2, h3, _, h4⟩
    · rw [h1]
      rcases seqTo_hit (d := d) 64 with h0 | ⟨i, hi, h5⟩
      · rw [h0]; exact seqTo_pos _ _
      · rw [← h5]
        have h6 := seqTo_ge (d := crashD d2 keep) 64 i hi
        rw [(rd_live hl3 hs3 (by rw [hn3]; exact hn) hi).1, hf3] at h6
        rw [(rd_live h hs hn hi).1] at h5 ⊢
        rcases keptTo_or (kept keep) d2.since d2.fast (i : Int) _ (Nat.le_refl _) with h7 | ⟨x, hx, _, h7⟩
        · rw [h7, h2] at h6
          have h8 : (armD d1 arm).fast (i : Int) = d.fast (i : Int) := hlow i hi
          rw [h8] at h6
          exact h6
        · rw [h7, h3 x hx] at h6
          omega
    · rw [h1]
      have h6 := seqTo_ge (d := crashD d2 keep) 64 0 (by decide)
      rw [(rd_live hl3 hs3 (by rw [hn3]; exact hn) (by decide)).1, hf3] at h6
      rcases keptTo_or (kept keep) d2.since d2.fast ((0 : Nat) : Int) _ (Nat.le_refl _) with h7 | ⟨x, hx, h8, _⟩
      · rw [h7] at h6
        have h9 : numB ((d2.fast ((0 : Nat) : Int)).take 8) = seqTo d 64 + 1 := h3
        rw [h9] at h6
        exact h6
      · have := h4 x hx
        omega
  · refine seqTo_le (by omega) 64 (fun i hi => ?_)
    rw [(rd_live hl3 hs3 (by rw [hn3]; exact hn) hi).1, hf3]
    have hold : numB ((d.fast (i : Int)).take 8) ≤ seqTo d 64 := by
      have := seqTo_ge (d := d) 64 i hi
      rwa [(rd_live h hs hn hi).1] at this
    have hd1 : (armD d1 arm).fast (i : Int) = d.fast (i : Int) := hlow i hi
    rcases keptTo_or (kept keep) d2.since d2.fast (i : Int) _ (Nat.le_refl _) with h7 | ⟨x, hx, h8, h7⟩
    · rw [h7]
      rcases c4 with ⟨_, h2, _⟩ | ⟨_, _, _, h4, _⟩
      · rw [h2, hd1]; omega
      · rcases h4 i hi with h5 | h5
        · rw [h5, hd1]; omega
        · rw [h5]; exact Int.le_refl _
    · rw [h7]
      rcases c4 with ⟨_, _, h3⟩ | ⟨_, _, _, _, h4⟩
      · rw [h3 x hx]; exact Int.le_refl _
      · have := h4 x hx
        omega
theorem pagesW_ok {l : List Put_} (h : ∀ p ∈ l, 0 ≤ p.2 ∧ p.2 < 256) : ∀ p ∈ pagesW l, thereB 72 p.f0 = true ∧ p.f1.length = 512 ∧ BytesOk p.f1 := by
  intro p hp
  obtain ⟨q, hq, rfl⟩ := List.mem_map.1 hp
  have h1 := low3_bound q.1
  have h2 := h q (List.mem_of_mem_take hq)
  exact ⟨decide_eq_true (by show 0 ≤ low3 q.1 ∧ low3 q.1 < 72 - 64; omega), List.length_replicate, fun x hx => by rw [(List.mem_replicate.1 hx).2]; exact h2⟩
end Go.Proofs.Ytmghgghheebnjaa.Dis
namespace Go.Proofs.Ytmghgghheebnjaa.Dis
open Go.RowKit Go.Proofs.YtmghgghheebnjaaW.PrintWords Go.Proofs.YtmghgghheebnjaaW.PrintLast Go.Proofs.YtmghgghheebnjaaW.PrintMore
set_option linter.unusedVariables false
set_option linter.unusedSimpArgs false
/-- What has come up: l0, and of the events those that d tells. -/
def lat : Array Bool → List Nat → List Bool → Array Bool
  | l, e :: es, b :: bs => lat (if b then l.setIfInBounds e true else l) es bs
  | l, _, _ => l
/-- One more event done. -/
def on : List Bool → Nat → List Bool
  | _ :: bs, 0 => true :: bs
  | b :: bs, j + 1 => b :: on bs j
  | [], _ => []
def offs : List Bool → Nat
  | [] => 0
  | b :: bs => (if b then 0 else 1) + offs bs
theorem on_offs : ∀ (d : List Bool) (j : Nat), d.getD j true = false → offs (on d j) + 1 = offs d
  | [], j, h => by simp at h
  | b :: bs, 0, h => by
    have : b = false := by simpa using h
    subst this
    show (if true = true then 0 else 1) + offs bs + 1 = (if false = true then 0 else 1) + offs bs
    simp; omega
  | b :: bs, j + 1, h => by
    have := on_offs bs j (by simpa using h)
    show (if b = true then 0 else 1) + offs (on bs j) + 1 = (if b = true then 0 else 1) + offs bs
    omega
theorem on_at : ∀ (d : List Bool) (j : Nat), j < d.length → (on d j).getD j false = true
  | [], j, h => by simp at h
  | b :: bs, 0, h => rfl
  | b :: bs, j + 1, h => by
    have := on_at bs j (by simpa using h)
    simpa [on] using this
theorem on_ne : ∀ (d : List Bool) (j i : Nat), i ≠ j → (on d j).getD i false = d.getD i false
  | [], j, i, _ => rfl
  | b :: bs, 0, 0, h => absurd rfl h
  | b :: bs, 0, i + 1, h => rfl
  | b :: bs, j + 1, 0, h => rfl
  | b :: bs, j + 1, i + 1, h => by
    have := on_ne bs j i (by omega)
    simpa [on] using this
def okLat (md : Region.Mode) (ops : Array Oper) (l0 : Array Bool) (evs : List Nat) (states : List (List Bool)) : Bool :=
  states.all fun d => (offs d == 0) || (!(Region.ready md ops (lat l0 evs d)).isEmpty && (Region.ready md ops (lat l0 evs d)).all fun i =>
    (List.range evs.length).any fun j => evs.getD j 0 == i && !d.getD j true && states.contains (on d j) && lat l0 evs (on d j) == (lat l0 evs d).setIfInBounds i true)
/-- Wherever event j may come up, event k is done. -/
def after (states : List (List Bool)) (j k : Nat) : Bool := states.all fun d => d.getD j true || !states.contains (on d j) || d.getD k false
theorem after_of {states : List (List Bool)} {j k : Nat} (h : after states j k = true) {d : List Bool} (hd : d ∈ states) (hj : d.getD j true = false) (hn : on d j ∈ states) : d.getD k false = true := by
  have := List.all_eq_true.1 h d hd
  simp only [hj, Bool.false_or, Bool.or_eq_true, Bool.not_eq_true'] at this
  rcases this with h1 | h1
  · rw [List.contains_iff_mem.2 hn] at h1; cases h1
  · exact h1
/-- No event is done behind event j. -/
def before (states : List (List Bool)) (j k : Nat) : Bool := states.all fun d => d.getD j true || !states.contains (on d j) || !d.getD k true
theorem before_of {states : List (List Bool)} {j k : Nat} (h : before states j k = true) {d : List Bool} (hd : d ∈ states) (hj : d.getD j true = false) (hn : on d j ∈ states) : d.getD k true = false := by
  have := List.all_eq_true.1 h d hd
  simp only [hj, Bool.false_or, Bool.or_eq_true, Bool.not_eq_true'] at this
  rcases this with h1 | h1
  · rw [List.contains_iff_mem.2 hn] at h1; cases h1
  · exact h1
theorem bit_abs {d : List Bool} {k : Nat} (h1 : d.getD k true = false) (h2 : d.getD k false = true) : False := by
  rw [List.getD_eq_getElem?_getD] at h1 h2
  cases h : d[k]? with
  | none => rw [h] at h1; cases h1
  | some b => rw [h] at h1 h2; rw [show b = false from h1] at h2; cases h2
section
variable {P : Program} {ops : Array Oper} {Q : Exit → Act → World → Prop} {md : Region.Mode} {S : World → Prop}
theorem lattice (l0 : Array Bool) (evs : List Nat) (states : List (List Bool)) (hok : okLat md ops l0 evs states = true) (Inv : List Bool → Act → World → Prop) (fuel : Nat)
    (hstep : ∀ d j, d ∈ states → d.getD j true = false → on d j ∈ states → ∀ a w, S w → Inv d a w → ∀ o, ops[evs.getD j 0]? = some o → ∀ K : Act → World → Prop, Shut (∀ a' w', S w' → Inv (on d j) a' w' → K a' w') → if Region.wanted o (yielded ops a.tmps) = true then Oper.wp P o a w K Q else K (a.put o.dst undef) w)
    (hfin : ∀ d a w, d ∈ states → offs d = 0 → S w → Inv d a w → wpAnyLast P md ops Q S [] fuel (lat l0 evs d) a w) :
    ∀ (m : Nat) (d : List Bool) (a : Act) (w : World), d ∈ states → offs d = m → S w → Inv d a w → wpAnyLast P md ops Q S [] (fuel + m) (lat l0 evs d) a w := by
  intro m
  induction m with
  | zero => intro d a w hd h0 hS hI; exact hfin d a w hd h0 hS hI
  | succ m ih =>
    intro d a w hd hm hS hI
    have h1 := List.all_eq_true.1 hok d hd
    have h0 : (offs d == 0) = false := by rw [hm]; rfl
    rw [h0, Bool.false_or, Bool.and_eq_true] at h1
    obtain ⟨hne, hall⟩ := h1
    refine ⟨fun h => (by rw [h] at hne; simp at hne), fun i hi => ?_⟩
    obtain ⟨j, hj, hj2⟩ := List.any_eq_true.1 (List.all_eq_true.1 hall i hi)
    simp only [Bool.and_eq_true, beq_iff_eq, Bool.not_eq_true'] at hj2
    obtain ⟨⟨⟨e1, e2⟩, e3⟩, e4⟩ := hj2
    have hmem : on d j ∈ states := List.contains_iff_mem.1 e3
    have hofs := on_offs d j e2
    subst e1
    obtain ⟨o, ho⟩ : ∃ o, ops[evs.getD j 0]? = some o := by
      obtain ⟨_, o, ho, _⟩ := mem_ready.1 hi
      exact ⟨o, ho⟩
    refine wpOp_step ho (fun K hK => hstep d j hd e2 hmem a w hS hI o ho K (fun a' w' hS' hI' => hK a' w' ⟨fun _ _ => hS', ?_⟩))
    rw [← e4]
    exact ih (on d j) a' w' hmem (by omega) hS' hI'
/-- The act with the events' values. -/
def putVs : Act → List Tmp → List Value → Act
  | a, t :: ts, v :: vs => putVs (a.put (some t) v) ts vs
  | a, _, _ => a
theorem put_comm (a : Act) (t u : Tmp) (v x : Value) (h : t ≠ u) : (a.put (some t) v).put (some u) x = (a.put (some u) x).put (some t) v := by
  simp only [Act.put]
  rw [Array.setIfInBounds_comm _ _ h]
theorem put_same (a : Act) (t : Tmp) (v x : Value) : (a.put (some t) v).put (some t) x = a.put (some t) x := by
  simp [Act.put]
theorem put_out : ∀ (ts : List Tmp) (vs : List Value) (a : Act) (t : Tmp) (v : Value), t ∉ ts → (putVs a ts vs).put (some t) v = putVs (a.put (some t) v) ts vs
  | [], vs, a, t, v, _ => by cases vs <;> rfl
  | u :: ts, [], a, t, v, _ => rfl
  | u :: ts, x :: vs, a, t, v, h => by
    show (putVs (a.put (some u) x) ts vs).put (some t) v = putVs ((a.put (some t) v).put (some u) x) ts vs
    rw [put_out ts vs _ t v (fun hm => h (List.mem_cons_of_mem _ hm)), put_comm a u t x v (fun e => h (by rw [e]; exact List.mem_cons_self))]
theorem put_set : ∀ (ts : List Tmp) (vs : List Value) (a : Act) (j : Nat) (t : Tmp) (v : Value), ts.Nodup → vs.length = ts.length → ts[j]? = some t → (putVs a ts vs).put (some t) v = putVs a ts (vs.set j v)
  | [], vs, a, j, t, v, _, _, h => by simp at h
  | u :: ts, [], a, j, t, v, _, hl, _ => by simp at hl
  | u :: ts, x :: vs, a, 0, t, v, hn, hl, h => by
    obtain rfl : u = t := by simpa using h
    show (putVs (a.put (some u) x) ts vs).put (some u) v = putVs (a.put (some u) v) ts vs
    rw [put_out ts vs _ u v (List.nodup_cons.1 hn).1, put_same]
  | u :: ts, x :: vs, a, j + 1, t, v, hn, hl, h => put_set ts vs (a.put (some u) x) j t v (List.nodup_cons.1 hn).2 (by simpa using hl) (by simpa using h)
/-- Each event's place is where its operation puts its value; a store puts none. -/
def okDst (ops : Array Oper) (evs : List Nat) (ts : List Tmp) : Bool := (List.range evs.length).all fun j => match ops[evs.getD j 0]?, ts[j]? with
  | some o, some t => o.dst == some t || o.dst == none
  | _, _ => false
def updO (o : Oper) (xs : List Value) (j : Nat) (v : Value) : List Value := if o.dst.isNone then xs else xs.set j v
theorem lattice2 (l0 : Array Bool) (evs : List Nat) (states : List (List Bool)) (ts : List Tmp) (hok : okLat md ops l0 evs states = true) (hdst : okDst ops evs ts = true) (hnd : ts.Nodup) (hlen : states.all (fun d => d.length == evs.length) = true) (F : List Bool → List Value → World → Prop) (fuel : Nat) {a0 : Act}
    (hstep : ∀ j, j < evs.length → ∀ d, d ∈ states → d.getD j true = false → on d j ∈ states → ∀ xs w, xs.length = ts.length → S w → F d xs w → ∀ a, a = putVs a0 ts xs → ∀ o, ops[evs.getD j 0]? = some o → ∀ K : Act → World → Prop, Shut (∀ v w', S w' → F (on d j) (updO o xs j v) w' → K (a.put o.dst v) w') → if Region.wanted o (yielded ops a.tmps) = true then Oper.wp P o a w K Q else K (a.put o.dst undef) w)
    (hfin : ∀ d xs a w, d ∈ states → offs d = 0 → xs.length = ts.length → S w → F d xs w → a = putVs a0 ts xs → wpAnyLast P md ops Q S [] fuel (lat l0 evs d) a w)
    (m : Nat) (d : List Bool) (xs : List Value) (w : World) (hd : d ∈ states) (hm : offs d = m) (hx : xs.length = ts.length) (hS : S w) (hF : F d xs w) : wpAnyLast P md ops Q S [] (fuel + m) (lat l0 evs d) (putVs a0 ts xs) w := by
  refine lattice l0 evs states hok (fun d a w => ∃ xs, xs.length = ts.length ∧ a = putVs a0 ts xs ∧ F d xs w) fuel ?_ ?_ m d _ w hd hm hS ⟨xs, hx, rfl, hF⟩
  · intro d j hd hj hn a w hS ⟨xs, hx, ha, hF⟩ o ho K hK
    have hdl : d.length = evs.length := by simpa using List.all_eq_true.1 hlen d hd
    have hjl : j < evs.length := by
      rcases Nat.lt_or_ge j evs.length with h | h
      · exact h
      · rw [List.getD_eq_getElem?_getD, List.getElem?_eq_none (by omega)] at hj
        cases hj
    have hdt := List.all_eq_true.1 hdst j (List.mem_range.2 hjl)
    rw [ho] at hdt
    obtain ⟨t, ht⟩ : ∃ t, ts[j]? = some t := by
      cases h : ts[j]? with
      | none => rw [h] at hdt; cases hdt
      | some t => exact ⟨t, rfl⟩
    rw [ht] at hdt
    have hod : o.dst = some t ∨ o.dst = none := by simpa using hdt
    refine hstep j hjl d hd hj hn xs w hx hS hF a ha o ho K (fun v w' hS' hF' => ?_)
    rcases hod with hod | hod
    · have hu : updO o xs j v = xs.set j v := by unfold updO; rw [hod]; rfl
      rw [hu] at hF'
      refine hK _ _ hS' ⟨xs.set j v, by rw [List.length_set]; exact hx, ?_, hF'⟩
      rw [hod, ha]
      exact put_set ts xs a0 j t v hnd hx ht
    · have hu : updO o xs j v = xs := by unfold updO; rw [hod]; rfl
      rw [hu] at hF'
      refine hK _ _ hS' ⟨xs, hx, ?_, hF'⟩
      rw [hod, ha]
      rfl
  · intro d a w hd h0 hS ⟨xs, hx, ha, hF⟩
    exact hfin d xs a w hd h0 hx hS hF ha
theorem offs_no : ∀ n, offs (List.replicate n false) = n
  | 0 => rfl
  | n + 1 => by
    show (if false = true then 0 else 1) + offs (List.replicate n false) = n + 1
    rw [offs_no n]
    simp
    omega
theorem put_self (a : Act) (t : Tmp) : a.put (some t) (a.tmps.getD t undef) = a := by
  obtain ⟨tmps, defers⟩ := a
  simp only [Act.put]
  congr 1
  apply Array.ext_getElem?
  intro i
  rw [Array.getElem?_setIfInBounds]
  by_cases h : t = i
  · subst h
    rw [if_pos rfl]
    by_cases h2 : t < tmps.size
    · rw [if_pos h2]; simp [h2]
    · rw [if_neg h2]; exact (Array.getElem?_eq_none (Nat.le_of_not_lt h2)).symm
  · rw [if_neg h]
theorem putVs_self : ∀ (ts : List Tmp) (a : Act), putVs a ts (ts.map fun t => a.tmps.getD t undef) = a
  | [], a => rfl
  | t :: ts, a => by
    show putVs (a.put (some t) (a.tmps.getD t undef)) ts (ts.map fun t => a.tmps.getD t undef) = a
    rw [put_self]
    exact putVs_self ts a
theorem lattice3 (l0 : Array Bool) (evs : List Nat) (states : List (List Bool)) (ts : List Tmp) (hok : okLat md ops l0 evs states = true) (hdst : okDst ops evs ts = true) (hnd : ts.Nodup) (hlen : states.all (fun d => d.length == evs.length) = true)
    (hfull : states.all (fun d => !(offs d == 0) || d == List.replicate evs.length true) = true) (hst : states.contains (List.replicate evs.length false) = true) (F : List Bool → List Value → World → Prop) (fuel : Nat) {n : Nat} {l : Array Bool} {a : Act} {w : World} (hn : n = fuel + evs.length) (hl : (lat l0 evs (List.replicate evs.length false) == l) = true)
    (hS : S w) (hF : ∀ xs, xs.length = ts.length → F (List.replicate evs.length false) xs w)
    (hstep : ∀ j, j < evs.length → ∀ d, d ∈ states → d.getD j true = false → on d j ∈ states → ∀ xs w, xs.length = ts.length → S w → F d xs w → ∀ a', a' = putVs a ts xs → ∀ o, ops[evs.getD j 0]? = some o → ∀ K : Act → World → Prop, Shut (∀ v w', S w' → F (on d j) (updO o xs j v) w' → K (a'.put o.dst v) w') → if Region.wanted o (yielded ops a'.tmps) = true then Oper.wp P o a' w K Q else K (a'.put o.dst undef) w)
    (hfin : ∀ xs w', xs.length = ts.length → S w' → F (List.replicate evs.length true) xs w' → ∀ a', a' = putVs a ts xs → wpAnyLast P md ops Q S [] fuel (lat l0 evs (List.replicate evs.length true)) a' w') : wpAnyLast P md ops Q S [] n l a w := by
  subst hn
  rw [← eq_of_beq hl]
  have h := lattice2 (a0 := a) l0 evs states ts hok hdst hnd hlen F fuel hstep (fun d xs a' w' hd h0 hx hS hF ha => by
    have := List.all_eq_true.1 hfull d hd
    rw [h0] at this
    have hd2 : d = List.replicate evs.length true := by simpa using this
    subst hd2
    exact hfin xs w' hx hS hF a' ha) evs.length (List.replicate evs.length false) (ts.map fun t => a.tmps.getD t undef) w (List.contains_iff_mem.1 hst) (offs_no _) (by simp) hS (hF _ (by simp))
  rw [putVs_self] at h
  exact h
end
end Go.Proofs.Ytmghgghheebnjaa.Dis
namespace Go.Proofs.Ytmghgghheebnjaa.Dis
open Go.RowKit Go.Proofs.YtmghgghheebnjaaW.PrintWords Go.Proofs.YtmghgghheebnjaaW.PrintLast Go.Proofs.YtmghgghheebnjaaW.PrintMore Go.Maps Go.Proofs.Ytmghgghheebnjaa.PWalRecords
set_option linter.unusedVariables false
set_option linter.unusedSimpArgs false
/-- The pages of the log's record that are there; what pages are behind an opening. -/
noncomputable def fof (n : Int) (f : Int → List Int) : List S58 := (pagesOf (logF f)).filter (fun p => thereB n p.f0)
noncomputable def replay (n : Int) (f : Int → List Int) : Int → List Int := applyW (pgW (fof n f)) f
theorem logF_ok {f : Int → List Int} (hsec : ∀ i, Sec (f i)) : ∀ s ∈ logF f, BytesOk s := by
  intro s hs
  unfold logF at hs
  obtain ⟨k, _, rfl⟩ := List.mem_map.1 hs
  exact (hsec _).2
theorem fof_ok {n : Int} {f : Int → List Int} (hsec : ∀ i, Sec (f i)) : ∀ p ∈ fof n f, thereB n p.f0 = true ∧ p.f1.length = 512 := by
  intro p hp
  have h1 := List.mem_filter.1 hp
  exact ⟨h1.2, (pagesOf_ok (logF_ok hsec) p h1.1).2.2.2⟩
theorem fof_len (n : Int) (f : Int → List Int) : (fof n f).length ≤ 64 := by
  refine Nat.le_trans (List.length_filter_le _ _) ?_
  unfold pagesOf
  split
  · rename_i hh
    unfold outS
    rw [List.length_map, List.length_range]
    exact hh.m64
  · simp
theorem pgW_hi {n : Int} {l : List S58} (hp : ∀ p ∈ l, thereB n p.f0 = true) : ∀ x ∈ pgW l, 64 ≤ x.1 ∧ x.1 < n := by
  intro x hx
  obtain ⟨p, hpm, rfl⟩ := List.mem_map.1 hx
  have := of_decide_eq_true (hp p hpm)
  exact ⟨by show 64 ≤ 64 + p.f0; omega, by show 64 + p.f0 < n; omega⟩
theorem crash_fast (d : D) (keep : List Bool) (i : Int) : (crashD d keep).fast i = d.fast i ∨ ∃ x ∈ d.since, x.1 = i ∧ (crashD d keep).fast i = x.2 :=
  keptTo_or (kept keep) d.since d.fast i _ (Nat.le_refl _)
theorem wrD_err : ∀ (xs : List (Int × List Int)) (d : D), (∀ x ∈ xs, 0 ≤ x.1 ∧ x.1 < d.n ∧ x.2.length = 512) → (wrD d xs).2 = 0 ∨ (wrD d xs).2 = 190 := by
  intro xs
  induction xs with
  | nil => intro d _; exact .inl rfl
  | cons x xs ih =>
    intro d hx
    have h1 := hx x List.mem_cons_self
    unfold wrD
    have hcl := callD_n d
    split
    · refine ih _ (fun y hy => ?_)
      have h2 := hx y (List.mem_cons_of_mem _ hy)
      refine ⟨h2.1, ?_, h2.2.2⟩
      have : (writeD d x.1 x.2).1.n = d.n := by
        unfold writeD
        repeat' split
        all_goals exact hcl
      rw [this]; exact h2.2.1
    · rename_i hne
      right
      unfold writeD at hne ⊢
      rcases callD_or d with hc | hc
      · exfalso
        apply hne
        have ht : thereD (callD d).1 x.1 = 0 := by unfold thereD; rw [hcl, if_neg (by omega), if_neg (by omega)]
        rw [if_neg (by rw [hc]; exact fun h => h rfl), if_neg (by rw [ht]; exact fun h => h rfl), if_neg (by omega)]
      · rw [if_pos (by rw [hc]; decide), hc]
/-- Writing pages on any disk, and a crash. -/
theorem writes_crash {d : D} (hs : d.since = []) {l : List S58} (hp : ∀ p ∈ l, thereB d.n p.f0 = true ∧ p.f1.length = 512) (keep : List Bool) :
    (writesD d l).1.n = d.n ∧ (writesD d l).1.cnt ≤ d.cnt + l.length ∧ ((writesD d l).2 = 0 ∨ (writesD d l).2 = 190) ∧ ∀ i, (crashD (writesD d l).1 keep).fast i = d.fast i ∨ ∃ x ∈ pgW l, x.1 = i := by
  have hx := pgW_hi (fun p hpm => (hp p hpm).1)
  obtain ⟨j, a1, a2, a3, a4, a5⟩ := wrD_any (pgW l) d (fun x h => by
    have h1 := hx x h
    obtain ⟨p, hpm, rfl⟩ := List.mem_map.1 h
    exact ⟨by omega, h1.2, (hp p hpm).2⟩)
  have hl : (pgW l).length = l.length := by unfold pgW; simp
  rw [hl] at a5
  rw [hs, List.nil_append] at a3
  have hsi : ∀ x ∈ (wrD d (pgW l)).1.since, x ∈ pgW l := fun x h => by rw [a3] at h; exact List.mem_of_mem_take h
  have hcr : ∀ i, (crashD (wrD d (pgW l)).1 keep).fast i = d.fast i ∨ ∃ x ∈ pgW l, x.1 = i := by
    intro i
    rcases crash_fast (wrD d (pgW l)).1 keep i with h | ⟨x, h1, h2, _⟩
    · rw [h, a1]; exact .inl rfl
    · exact .inr ⟨x, hsi x h1, h2⟩
  have he1 := wrD_err (pgW l) d (fun x h => by
    have h1 := hx x h
    obtain ⟨p, hpm, rfl⟩ := List.mem_map.1 h
    exact ⟨by omega, h1.2, (hp p hpm).2⟩)
  unfold writesD
  split
  · split
    · exact ⟨a2, a5, he1, hcr⟩
    · have hfe : (flushD (wrD d (pgW l)).1).2 = 0 ∨ (flushD (wrD d (pgW l)).1).2 = 190 := by
        unfold flushD
        rcases callD_or (wrD d (pgW l)).1 with hc | hc
        · rw [if_pos hc]; exact .inl rfl
        · rw [if_neg (by rw [hc]; decide)]; exact .inr hc
      rcases flushD_any (wrD d (pgW l)).1 with ⟨_, b1, b2, b3, b4⟩ | ⟨_, b1, b2, b3, b4⟩
      · refine ⟨b3.trans a2, Nat.le_trans (Nat.le_of_eq b4) a5, hfe, fun i => ?_⟩
        rcases crash_fast (flushD (wrD d (pgW l)).1).1 keep i with h | ⟨x, h1, _⟩
        · rw [h, b1, a1]
          by_cases hh : ∃ x ∈ pgW l, x.1 = i
          · exact .inr hh
          · exact .inl (applyW_out _ _ _ (fun x hx e => hh ⟨x, hsi x hx, e⟩))
        · rw [b2] at h1; cases h1
      · refine ⟨b3.trans a2, Nat.le_trans (Nat.le_of_eq b4) a5, hfe, fun i => ?_⟩
        rcases crash_fast (flushD (wrD d (pgW l)).1).1 keep i with h | ⟨x, h1, h2, _⟩
        · rw [h, b1, a1]; exact .inl rfl
        · rw [b2] at h1; exact .inr ⟨x, hsi x h1, h2⟩
  · exact ⟨a2, a5, he1, hcr⟩
theorem writes_done {d : D} (hs : d.since = []) {l : List S58} (hp : ∀ p ∈ l, thereB d.n p.f0 = true ∧ p.f1.length = 512) (keep : List Bool) (i : Int) : applyW (pgW l) (crashD (writesD d l).1 keep).fast i = applyW (pgW l) d.fast i := by
  by_cases h : ∃ x ∈ pgW l, x.1 = i
  · exact applyW_hit _ _ _ i h
  · have h2 : ∀ x ∈ pgW l, x.1 ≠ i := fun x hx e => h ⟨x, hx, e⟩
    rw [applyW_out _ _ _ h2, applyW_out _ _ _ h2]
    exact ((writes_crash hs hp keep).2.2.2 i).resolve_right h
/-! ### opening on any disk -/
theorem rdAll_0 {d : D} : ∀ f k, k + f = 64 → (rdAll d k f).2 = 0 → ∀ j, k ≤ j → j < 64 → rdErr d j = 0 := by
  intro f
  induction f with
  | zero => intro k hk _ j h1 h2; omega
  | succ f ih =>
    intro k hk h j h1 h2
    unfold rdAll at h
    split at h
    · rename_i h0
      by_cases e : j = k
      · subst e; exact h0
      · exact ih (k + 1) (by omega) h j (by omega) h2
    · rename_i h0
      exact absurd h h0
theorem rdAll_d {d : D} : ∀ f k, k + f = 64 → ∃ j, (rdAll d k f).1 = rdTo d j := by
  intro f
  induction f with
  | zero => intro k _; exact ⟨k, rfl⟩
  | succ f ih =>
    intro k hk
    unfold rdAll
    split
    · exact ih (k + 1) (by omega)
    · exact ⟨k + 1, rfl⟩
theorem rdRow_fast {d : D} (hs : d.since = []) {k : Nat} (h : rdErr d k = 0) : rdRow d k = d.fast (k : Int) := by
  obtain ⟨e1, e2, e3, e4⟩ := rdTo_n d k
  unfold rdErr readD at h
  unfold rdRow readD
  split at h
  · rename_i hc
    exact absurd h hc
  · rename_i hc
    split at h
    · rename_i hc2
      exact absurd h hc2
    · rename_i hc2
      rw [if_neg hc, if_neg hc2]
      show readF (callD (rdTo d k)).1.since _ _ = _
      rw [callD_since, callD_fast, e2, e3, hs]
      rfl
theorem open_crash {d : D} (hs : d.since = []) (hn : 64 < d.n) (hsec : ∀ i, Sec (d.fast i)) (keep : List Bool) :
    (openD d).1.n = d.n ∧ (openD d).1.cnt ≤ d.cnt + 64 ∧ ∀ i, (crashD (openD d).1 keep).fast i = d.fast i ∨ ∃ x ∈ pgW (fof d.n d.fast), x.1 = i := by
  obtain ⟨j, hj⟩ := rdAll_d (d := d) 64 0 (by omega)
  obtain ⟨e1, e2, e3, e4⟩ := rdTo_n d j
  unfold openD
  rw [if_neg (by omega)]
  split
  · rename_i h0
    have hall := rdAll_0 (d := d) 64 0 (by omega) h0
    have hlog : logOf d 64 = logF d.fast := List.map_congr_left (fun k hk => rdRow_fast hs (hall k (Nat.zero_le _) (List.mem_range.1 hk)))
    rw [hlog, hj]
    have hw := writes_crash (d := rdTo d j) (by rw [e3]; exact hs) (l := fof d.n d.fast) (by rw [e1]; exact fof_ok hsec) keep
    have hl := fof_len d.n d.fast
    refine ⟨hw.1.trans e1, ?_, fun i => ?_⟩
    · have := hw.2.1
      rw [e4] at this
      exact Nat.le_trans this (by omega)
    · have := hw.2.2.2 i
      rw [e2] at this
      exact this
  · rw [hj]
    refine ⟨e1, by show (rdTo d j).cnt ≤ _; omega, fun i => .inl ?_⟩
    rcases crash_fast (rdTo d j) keep i with h | ⟨x, h1, _⟩
    · rw [h, e2]
    · rw [e3, hs] at h1; cases h1
theorem replay_same {n : Int} {f g : Int → List Int} (hsec : ∀ i, Sec (f i)) (h : ∀ i, g i = f i ∨ ∃ x ∈ pgW (fof n f), x.1 = i) : logF g = logF f ∧ ∀ i, replay n g i = replay n f i := by
  have hlog : logF g = logF f := logF_congr (fun i hi => (h (i : Int)).resolve_right (fun ⟨x, hx, e⟩ => by have := (pgW_hi (fun p hp => (fof_ok hsec p hp).1) x hx).1; omega))
  refine ⟨hlog, fun i => ?_⟩
  have hf : fof n g = fof n f := by unfold fof; rw [hlog]
  unfold replay
  rw [hf]
  by_cases hh : ∃ x ∈ pgW (fof n f), x.1 = i
  · exact applyW_hit _ _ _ i hh
  · have h2 : ∀ x ∈ pgW (fof n f), x.1 ≠ i := fun x hx e => hh ⟨x, hx, e⟩
    rw [applyW_out _ _ _ h2, applyW_out _ _ _ h2]
    exact (h i).resolve_right hh
end Go.Proofs.Ytmghgghheebnjaa.Dis
namespace Go.Proofs.Ytmghgghheebnjaa.Dis
open Go.RowKit Go.Proofs.YtmghgghheebnjaaW.PrintWords Go.Proofs.YtmghgghheebnjaaW.PrintLast Go.Proofs.YtmghgghheebnjaaW.PrintMore Go.Maps Go.Proofs.Ytmghgghheebnjaa.PWalRecords
set_option linter.unusedVariables false
set_option linter.unusedSimpArgs false
theorem applyW_at {l : List (Int × List Int)} {f g : Int → List Int} {i : Int} (h : f i = g i) : applyW l f i = applyW l g i := by
  by_cases hh : ∃ x ∈ l, x.1 = i
  · exact applyW_hit _ _ _ i hh
  · have h2 : ∀ x ∈ l, x.1 ≠ i := fun x hx e => hh ⟨x, hx, e⟩
    rw [applyW_out _ _ _ h2, applyW_out _ _ _ h2, h]
theorem pagesOf_eq {l : List (List Int)} {n m : Nat} (h : ScanOk l n m) : pagesOf l = outS l n m :=
  ((scanR_out (.inl ⟨rfl, rfl, n, m, h, rfl⟩ : ScanR l (seqS l) (outS l n m) true)).1).symm
/-- A log of which some sectors were written anew. -/
theorem scan_mix {L L' : List (List Int)} {q : Int} (hlen : L'.length = L.length) (hq : ∀ i, i < L.length → numB ((L.getD i []).take 8) < q) (hmix : ∀ i, i < L.length → L'.getD i [] = L.getD i [] ∨ numB ((L'.getD i []).take 8) = q) :
    pagesOf L' = pagesOf L ∨ pagesOf L' = [] ∨ ∃ n : Nat, cntS L' = (n : Int) ∧ 1 ≤ n ∧ n ≤ L.length ∧ ∀ i, i < n → numB ((L'.getD i []).take 8) = q := by
  by_cases hok : ScanOk L' (cntS L').toNat (manyB (logB L' (cntS L').toNat)).toNat
  · generalize (cntS L').toNat = n at hok
    generalize (manyB (logB L' n)).toNat = m at hok
    by_cases h0 : numB ((L'.getD 0 []).take 8) = q
    · right; right
      refine ⟨n, hok.cn, hok.n1, by rw [← hlen]; exact hok.nl, fun i hi => ?_⟩
      have := (hok.part i hi).2.1
      rw [this]
      exact h0
    · left
      have hne := hok.ne
      have hsame : ∀ i, i < n → L'.getD i [] = L.getD i [] := by
        intro i hi
        have h1 := (hok.part i hi).2.1
        refine (hmix i (by have := hok.nl; omega)).resolve_right (fun e => h0 ?_)
        rw [← e, h1]
        rfl
      have htk : L'.take n = L.take n := by
        have hnl := hok.nl
        apply List.ext_getElem
        · rw [List.length_take, List.length_take, hlen]
        · intro i h1 h2
          rw [List.length_take] at h1 h2
          rw [List.getElem_take, List.getElem_take]
          have := hsame i (by omega)
          rw [List.getD_eq_getElem?_getD, List.getD_eq_getElem?_getD, List.getElem?_eq_getElem (by omega), List.getElem?_eq_getElem (by omega)] at this
          exact this
      have hlog : logB L' n = logB L n := by unfold logB; rw [htk]
      have hz := hsame 0 (by have := hok.n1; omega)
      have hsq : seqS L' = seqS L := by unfold seqS; rw [hz]
      have hcn : cntS L' = cntS L := by unfold cntS; rw [hz]
      have hok2 : ScanOk L n m := ⟨by rw [← hlen]; exact hne, by rw [← hz]; exact hok.l0, by rw [← hsq]; exact hok.sq, by rw [← hcn]; exact hok.cn, hok.n1, hok.n64, by rw [← hlen]; exact hok.nl, fun i hi => by rw [← hsame i hi, ← hsq]; exact hok.part i hi, by rw [← hlog]; exact hok.mn, hok.m64, hok.secs, fun j hj => by rw [← hlog]; exact hok.nos j hj⟩
      rw [pagesOf_eq hok, pagesOf_eq hok2]
      unfold outS
      rw [hlog]
  · right; left
    unfold pagesOf
    rw [if_neg hok]
theorem rec_fits {q : Int} {l : List S58} (hq : q ≠ 0) (hl : l.length ≤ 62) (hp : ∀ p ∈ l, thereB 72 p.f0 = true ∧ p.f1.length = 512 ∧ BytesOk p.f1) : recE q l = 0 := by
  unfold recE
  rw [if_neg hq]
  have hb : l.any (fun p => badB p.f0 p.f1.length) = false := by
    rw [List.any_eq_false]
    intro p hpm
    have h1 := hp p hpm
    have h2 := of_decide_eq_true h1.1
    unfold badB
    rw [h1.2.1]
    simp
    omega
  rw [hb, if_neg (by decide), if_neg (by omega), if_neg (by unfold secsN; omega)]
/-- A crash as a record is written. -/
theorem log_mix {d d2 : D} (hn : d.n = 72) (hsec : ∀ i, Sec (d.fast i)) {s : Int} (h0 : 0 ≤ s) (h1 : s + 1 < 18446744073709551616) (hseq : ∀ i : Nat, i < 64 → numB ((d.fast (i : Int)).take 8) ≤ s)
    (hrep : ∀ i, replay 72 d.fast i = d.fast i) {l : List S58} (hp : ∀ p ∈ l, thereB 72 p.f0 = true ∧ p.f1.length = 512 ∧ BytesOk p.f1) (he : recE (s + 1) l = 0) (hf : d2.fast = d.fast) (hsi : ∀ x ∈ d2.since, x ∈ enumW 0 (recS (s + 1) l)) (keep : List Bool) :
    (∀ i, 64 ≤ i → replay 72 (crashD d2 keep).fast i = applyW (pgW l) d.fast i) ∨ (∀ i, 64 ≤ i → replay 72 (crashD d2 keep).fast i = d.fast i) := by
  obtain ⟨f', hf'⟩ : ∃ f', f' = (crashD d2 keep).fast := ⟨_, rfl⟩
  have hN := (recE_0 he).2.2.2
  have hrl := recS_len (s + 1) l
  have hc : ∀ i, f' i = d.fast i ∨ ∃ x ∈ enumW 0 (recS (s + 1) l), x.1 = i ∧ f' i = x.2 := by
    intro i
    rw [hf']
    rcases crash_fast d2 keep i with h | ⟨x, a, b, c⟩
    · rw [h, hf]; exact .inl rfl
    · exact .inr ⟨x, hsi x a, b, c⟩
  rw [← hf']
  have hhi : ∀ i, 64 ≤ i → f' i = d.fast i := by
    intro i hi
    refine (hc i).resolve_right (fun ⟨x, a, b, c⟩ => ?_)
    have := enumW_mem _ 0 x a
    omega
  have hnum : ∀ i, i < secsN l.length → numB (((recS (s + 1) l).getD i []).take 8) = s + 1 := by
    intro i hi
    have h3 := recS_at (s + 1) l [] hi
    rw [List.append_nil] at h3
    rw [h3, sect_parts.1]
    exact numB_big _ 8 (by omega) (by have : (256 : Int) ^ 8 = 18446744073709551616 := by decide
                                      omega)
  have hen : ∀ (rs : List (List Int)) (k : Nat) (x : Int × List Int), x ∈ enumW k rs → x.2 = rs.getD (x.1 - k).toNat [] := by
    intro rs
    induction rs with
    | nil => intro k x hx; cases hx
    | cons r rs ih =>
      intro k x hx
      rcases List.mem_cons.1 hx with rfl | h
      · show r = (r :: rs).getD ((k : Int) - k).toNat []
        rw [Int.sub_self]
        rfl
      · have h2 := ih (k + 1) x h
        have h3 := enumW_mem rs (k + 1) x h
        rw [h2, show (x.1 - (k : Int)).toNat = (x.1 - ((k + 1 : Nat) : Int)).toNat + 1 by omega]
        rfl
  have hat : ∀ i : Nat, i < 64 → f' (i : Int) = d.fast (i : Int) ∨ (i < secsN l.length ∧ f' (i : Int) = (recS (s + 1) l).getD i [] ∧ numB ((f' (i : Int)).take 8) = s + 1) := by
    intro i hi
    rcases hc (i : Int) with h | ⟨x, a, b, c⟩
    · exact .inl h
    · right
      have h2 := enumW_mem _ 0 x a
      have h3 := hen _ 0 x a
      rw [b] at h2 h3
      have hin : i < secsN l.length := by rw [← hrl]; omega
      have e : ((i : Int) - ((0 : Nat) : Int)).toNat = i := by omega
      rw [e] at h3
      rw [c, h3]
      exact ⟨hin, rfl, hnum i hin⟩
  have hfof : ∀ g : Int → List Int, fof 72 g = (pagesOf (logF g)).filter (fun p => thereB 72 p.f0) := fun g => rfl
  rcases scan_mix (L := logF d.fast) (L' := logF f') (q := s + 1) (by rw [logF_len, logF_len]) (fun i hi => by rw [logF_len] at hi; rw [logF_at _ hi]; have := hseq i hi; omega) (fun i hi => by
    rw [logF_len] at hi
    rw [logF_at _ hi, logF_at _ hi]
    rcases hat i hi with h | h
    · exact .inl h
    · exact .inr h.2.2) with h | h | ⟨n, e1, e2, e3, e4⟩
  · right
    intro i hi
    have : fof 72 f' = fof 72 d.fast := by rw [hfof, hfof, h]
    rw [← hrep i]
    unfold replay
    rw [this]
    exact applyW_at (hhi i hi)
  · right
    intro i hi
    have : fof 72 f' = [] := by rw [hfof, h]; rfl
    unfold replay
    rw [this]
    exact hhi i hi
  · left
    rw [logF_len] at e3
    have hrow : ∀ i, i < n → i < secsN l.length ∧ f' (i : Int) = (recS (s + 1) l).getD i [] := by
      intro i hi
      have h2 := e4 i hi
      rw [logF_at _ (by omega)] at h2
      rcases hat i (by omega) with h | h
      · rw [h] at h2
        have := hseq i (by omega)
        omega
      · exact ⟨h.1, h.2.1⟩
    have hn2 : n = secsN l.length := by
      have h2 := hrow 0 (by omega)
      have h3 := recS_at (s + 1) l [] h2.1
      rw [List.append_nil] at h3
      have h4 : cntS (logF f') = (secsN l.length : Int) := by
        unfold cntS
        rw [logF_at _ (by decide)]
        show numB (((f' ((0 : Nat) : Int)).take 12).drop 10) = _
        rw [h2.2, h3, sect_parts.2.2.1]
        exact numB_big _ 2 (by omega) (by have : (256 : Int) ^ 2 = 65536 := by decide
                                          omega)
      rw [h4] at e1
      omega
    have hlog : logF f' = recS (s + 1) l ++ (logF f').drop n := by
      apply List.ext_getElem
      · rw [List.length_append, hrl, List.length_drop, logF_len]; omega
      · intro i h1 h2
        rw [logF_len] at h1
        by_cases hi : i < n
        · have h3 := (hrow i hi).2
          rw [List.getElem_append_left (by rw [hrl]; omega)]
          have h4 := logF_at f' h1
          rw [List.getD_eq_getElem?_getD, List.getElem?_eq_getElem (by rw [logF_len]; exact h1)] at h4
          rw [List.getD_eq_getElem?_getD, List.getElem?_eq_getElem (by rw [hrl]; omega)] at h3
          exact h4.trans h3
        · rw [List.getElem_append_right (by rw [hrl]; omega), List.getElem_drop]
          simp only [hrl]
          congr 1
          omega
    have hpg : pagesOf (logF f') = l := by
      rw [hlog]
      exact pages_rec _ he (by omega) h1
    intro i hi
    have : fof 72 f' = l := by
      rw [hfof, hpg]
      exact List.filter_eq_self.2 (fun p hp' => (hp p hp').1)
    unfold replay
    rw [this]
    exact applyW_at (hhi i hi)
/-- A commit on any disk, and a crash. -/
theorem commit_crash {d : D} (hs : d.since = []) (hn : d.n = 72) (hsec : ∀ i, Sec (d.fast i)) {s : Int} (h0 : 0 ≤ s) (h1 : s + 1 < 18446744073709551616) (hseq : ∀ i : Nat, i < 64 → numB ((d.fast (i : Int)).take 8) ≤ s)
    (hrep : ∀ i, replay 72 d.fast i = d.fast i) {l : List S58} (hp : ∀ p ∈ l, thereB 72 p.f0 = true ∧ p.f1.length = 512 ∧ BytesOk p.f1) (hl : l.length ≤ 62) (keep : List Bool) :
    ((commitD d s l).2.2 = 0 ∨ (commitD d s l).2.2 = 190) ∧
    ((∀ i, 64 ≤ i → replay 72 (crashD (commitD d s l).1 keep).fast i = applyW (pgW l) d.fast i) ∨ ((commitD d s l).2.2 ≠ 0 ∧ ∀ i, 64 ≤ i → replay 72 (crashD (commitD d s l).1 keep).fast i = d.fast i)) := by
  have hany : l.any (badW d.n) = false := by
    rw [List.any_eq_false]
    intro p hpm
    have h2 := hp p hpm
    unfold badW
    rw [hn, h2.1, h2.2.1]
    decide
  have hc0 : ∀ i, (crashD d keep).fast i = d.fast i := by
    intro i
    rcases crash_fast d keep i with h | ⟨x, a, _⟩
    · exact h
    · rw [hs] at a; cases a
  unfold commitD
  rw [hany, if_neg (by decide)]
  by_cases hlz : l.length = 0
  · rw [if_pos hlz]
    have hln : l = [] := List.eq_nil_of_length_eq_zero hlz
    subst hln
    refine ⟨.inl rfl, .inl (fun i hi => ?_)⟩
    show replay 72 (crashD d keep).fast i = d.fast i
    rw [show (crashD d keep).fast = d.fast from funext hc0, hrep]
  rw [if_neg hlz, if_neg (by omega)]
  have he := rec_fits (q := s + 1) (by omega) hl hp
  have hr := recE_0 he
  rw [if_neg (by rw [he]; exact fun h => h rfl)]
  have hrs := recS_ok (seq := s + 1) (l := l) (fun p hpm => (hp p hpm).2.2)
  have hrl := recS_len (s + 1) l
  have hx : ∀ x ∈ enumW 0 (recS (s + 1) l), 0 ≤ x.1 ∧ x.1 < d.n ∧ x.2.length = 512 := by
    intro x hx
    have h2 := enumW_mem _ 0 x hx
    exact ⟨by have := h2.1; omega, by have := h2.2.1; omega, (hrs _ h2.2.2).1⟩
  obtain ⟨j, a1, a2, a3, a4, a5⟩ := wrD_any (enumW 0 (recS (s + 1) l)) d hx
  rw [hs, List.nil_append] at a3
  have he1 : (wrD d (enumW 0 (recS (s + 1) l))).2 = 0 ∨ (wrD d (enumW 0 (recS (s + 1) l))).2 = 190 := wrD_err _ d hx
  have hmix := fun (d2 : D) (hf : d2.fast = d.fast) (hsi : ∀ x ∈ d2.since, x ∈ enumW 0 (recS (s + 1) l)) => log_mix (d := d) (d2 := d2) hn hsec h0 h1 hseq hrep hp he hf hsi keep
  by_cases h2 : (wrD d (enumW 0 (recS (s + 1) l))).2 = 0
  · rw [if_neg (fun h => h h2)]
    rcases flushD_any (wrD d (enumW 0 (recS (s + 1) l))).1 with ⟨b0, b1, b2, b3, b4⟩ | ⟨b0, b1, b2, b3, b4⟩
    · rw [if_neg (by rw [b0]; exact fun h => h rfl)]
      obtain ⟨d2, hd2⟩ : ∃ d2, d2 = (flushD (wrD d (enumW 0 (recS (s + 1) l))).1).1 := ⟨_, rfl⟩
      rw [← hd2] at b1 b2 b3 b4 ⊢
      rw [a4 h2] at a3
      rw [a3, a1] at b1
      have hn2 : d2.n = 72 := by rw [b3, a2, hn]
      have hp2 : ∀ p ∈ l, thereB d2.n p.f0 = true ∧ p.f1.length = 512 := fun p hpm => by rw [hn2]; exact ⟨(hp p hpm).1, (hp p hpm).2.1⟩
      obtain ⟨_, _, c3, c4⟩ := writes_crash b2 hp2 keep
      refine ⟨c3, .inl (fun i hi => ?_)⟩
      show replay 72 (crashD (writesD d2 l).1 keep).fast i = _
      have hlo : ∀ k : Nat, k < 64 → (crashD (writesD d2 l).1 keep).fast (k : Int) = applyW (pgW l) d2.fast (k : Int) := by
        intro k hk
        have hout : ∀ x ∈ pgW l, x.1 ≠ (k : Int) := fun x hxm => by
          have := (pgW_hi (fun p hpm => (hp p hpm).1) x hxm).1
          omega
        rw [applyW_out _ _ _ hout]
        exact (c4 (k : Int)).resolve_right (fun ⟨x, hxm, e⟩ => hout x hxm e)
      have hlog : logF (crashD (writesD d2 l).1 keep).fast = recS (s + 1) l ++ (logF d.fast).drop (secsN l.length) := by
        rw [logF_congr hlo, b1]
        exact log_commit (fun p hpm => (of_decide_eq_true (hp p hpm).1).1) hr.2.2.2
      have hfo : fof 72 (crashD (writesD d2 l).1 keep).fast = l := by
        unfold fof
        rw [hlog, pages_rec _ he (by omega) h1]
        exact List.filter_eq_self.2 (fun p hp' => (hp p hp').1)
      unfold replay
      rw [hfo, writes_done b2 hp2 keep i]
      refine applyW_at ?_
      rw [b1]
      exact applyW_out _ _ _ (fun x hxm => by have := enumW_mem _ 0 x hxm; omega)
    · rw [if_pos b0]
      have hfe : (flushD (wrD d (enumW 0 (recS (s + 1) l))).1).2 = 190 := by
        unfold flushD at b0 ⊢
        rcases callD_or (wrD d (enumW 0 (recS (s + 1) l))).1 with hc | hc
        · rw [if_pos hc] at b0; exact absurd rfl b0
        · rw [if_neg (by rw [hc]; decide)]; exact hc
      refine ⟨.inr hfe, ?_⟩
      rcases hmix _ (b1.trans a1) (fun x hx => by rw [b2, a3] at hx; exact List.mem_of_mem_take hx) with h | h
      · exact .inl h
      · exact .inr ⟨b0, h⟩
  · rw [if_pos h2]
    refine ⟨.inr (he1.resolve_left h2), ?_⟩
    rcases hmix _ a1 (fun x hx => by rw [a3] at hx; exact List.mem_of_mem_take hx) with h | h
    · exact .inl h
    · exact .inr ⟨h2, h⟩
end Go.Proofs.Ytmghgghheebnjaa.Dis
namespace Go.Proofs.Ytmghgghheebnjaa.Dis
open Go.RowKit Go.Proofs.YtmghgghheebnjaaW.PrintWords Go.Proofs.YtmghgghheebnjaaW.PrintLast Go.Proofs.YtmghgghheebnjaaW.PrintMore Go.Maps Go.Proofs.Ytmghgghheebnjaa.PWalRecords
set_option linter.unusedVariables false
set_option linter.unusedSimpArgs false
/-- Pages behind puts: a byte each. -/
def put1 (st : List Int) (p : Put_) : List Int := st.set (low3 p.1).toNat p.2
def afterN (st : List Int) (l : List Put_) (k : Nat) : List Int := (l.take k).foldl put1 st
def afterS (st : List Int) (l : List Put_) : List Int := (l.take 70).foldl put1 st
def St (st : List Int) : Prop := st.length = 8 ∧ ∀ x ∈ st, 0 ≤ x ∧ x < 256
theorem st_put {st : List Int} (h : St st) {p : Put_} (hp : 0 ≤ p.2 ∧ p.2 < 256) : St (put1 st p) := by
  unfold put1
  refine ⟨by rw [List.length_set]; exact h.1, fun x hx => ?_⟩
  rcases List.mem_or_eq_of_mem_set hx with h1 | h1
  · exact h.2 x h1
  · rw [h1]; exact hp
theorem st_fold : ∀ (l : List Put_) (st : List Int), St st → (∀ p ∈ l, 0 ≤ p.2 ∧ p.2 < 256) → St (l.foldl put1 st) := by
  intro l
  induction l with
  | nil => intro st h _; exact h
  | cons p l ih => intro st h hp; exact ih _ (st_put h (hp p List.mem_cons_self)) (fun q hq => hp q (List.mem_cons_of_mem _ hq))
theorem st_after {st : List Int} {l : List Put_} (h : St st) (hp : ∀ p ∈ l, 0 ≤ p.2 ∧ p.2 < 256) : St (afterS st l) := st_fold _ _ h (fun p hq => hp p (List.mem_of_mem_take hq))
/-- The pages of a state. -/
def pageS (st : List Int) (i : Nat) : List Int := List.replicate 512 (st.getD i 0)
theorem fold_pages : ∀ (l : List Put_) (st : List Int) (f : Int → List Int), st.length = 8 → (∀ i : Nat, i < 8 → f (64 + (i : Int)) = pageS st i) → ∀ i : Nat, i < 8 → applyW (pgW (l.map pageOf)) f (64 + (i : Int)) = pageS (l.foldl put1 st) i := by
  intro l
  induction l with
  | nil => intro st f _ h i hi; exact h i hi
  | cons p l ih =>
    intro st f h8 h i hi
    refine ih (put1 st p) (upd f (64 + low3 p.1, List.replicate 512 p.2)) (by unfold put1; rw [List.length_set]; exact h8) (fun j hj => ?_) i hi
    have hb := low3_bound p.1
    unfold upd pageS put1
    by_cases e : (64 : Int) + (j : Int) = 64 + low3 p.1
    · have e2 : j = (low3 p.1).toNat := by omega
      rw [if_pos e, ← e2, List.getD_eq_getElem?_getD, List.getElem?_set_self (by rw [h8]; exact hj)]
      rfl
    · have e2 : (low3 p.1).toNat ≠ j := by omega
      rw [if_neg e, h j hj, List.getD_eq_getElem?_getD, List.getElem?_set_ne e2]
      unfold pageS
      rw [List.getD_eq_getElem?_getD]
theorem after_pages {st : List Int} {f : Int → List Int} (h8 : st.length = 8) (h : ∀ i : Nat, i < 8 → f (64 + (i : Int)) = pageS st i) (l : List Put_) : ∀ i : Nat, i < 8 → applyW (pgW (pagesW l)) f (64 + (i : Int)) = pageS (afterS st l) i :=
  fold_pages (l.take 70) st f h8 h
/-- A disk with power, on which all stands fast, whose pages are a state's behind an opening. -/
structure Wh (d : D) (st : List Int) : Prop where
  live : Live d
  sin : d.since = []
  n72 : d.n = 72
  sec : ∀ i, Sec (d.fast i)
  pg : ∀ i : Nat, i < 8 → replay 72 d.fast (64 + (i : Int)) = pageS st i
theorem replay_idem {n : Int} {f : Int → List Int} (hsec : ∀ i, Sec (f i)) (i : Int) : logF (replay n f) = logF f ∧ replay n (replay n f) i = replay n f i := by
  have h1 : ∀ j, replay n f j = f j ∨ ∃ x ∈ pgW (fof n f), x.1 = j := by
    intro j
    by_cases h : ∃ x ∈ pgW (fof n f), x.1 = j
    · exact .inr h
    · exact .inl (applyW_out _ _ _ (fun x hx e => h ⟨x, hx, e⟩))
  have h2 := replay_same hsec h1
  exact ⟨h2.1, h2.2 i⟩
theorem crash_sec {d : D} {keep : List Bool} (h : ∀ i, Sec (d.fast i)) (h2 : ∀ x ∈ d.since, Sec x.2) : ∀ i, Sec ((crashD d keep).fast i) := by
  intro i
  rcases crash_fast d keep i with e | ⟨x, a, _, e⟩
  · rw [e]; exact h i
  · rw [e]; exact h2 x a
/-- Opening with power. -/
theorem wh_open {d : D} {st : List Int} (h : Wh d st) : ∃ d1 : D, openD d = (d1, seqTo d 64, 0) ∧ Live d1 ∧ d1.since = [] ∧ d1.n = 72 ∧ d1.fast = replay 72 d.fast ∧ d1.cnt ≤ d.cnt + 64 ∧ ∀ i : Nat, i < 8 → readW d1 (i : Int) = (d1, pageS st i, 0) := by
  obtain ⟨c1, hw1, hc1⟩ := writesD_live h.live h.sin (l := fof d.n d.fast) (fof_ok h.sec)
  have hl := fof_len d.n d.fast
  have ho := openD_live h.live h.sin (by rw [h.n72]; decide)
  obtain ⟨d1, hd1⟩ : ∃ d1 : D, d1 = { d with fast := applyW (pgW (fof d.n d.fast)) d.fast, cnt := c1 } := ⟨_, rfl⟩
  have hf1 : d1.fast = replay 72 d.fast := by rw [hd1]; show applyW (pgW (fof d.n d.fast)) d.fast = _; rw [h.n72]; rfl
  have hl1 : Live d1 := by rw [hd1]; exact h.live
  have hs1 : d1.since = [] := by rw [hd1]; exact h.sin
  have hn1 : d1.n = 72 := by rw [hd1]; exact h.n72
  refine ⟨d1, ?_, hl1, hs1, hn1, hf1, by rw [hd1]; show c1 ≤ _; omega, fun i hi => ?_⟩
  · rw [ho, hd1]
    show ((writesD d (fof d.n d.fast)).1, seqTo d 64, (writesD d (fof d.n d.fast)).2) = _
    rw [hw1]
  · unfold readW
    rw [if_pos (by rw [hn1]; exact decide_eq_true ⟨by omega, by omega⟩), readD_live hl1 hs1 (by omega) (by rw [hn1]; omega), hf1, h.pg i hi]
/-- The power goes as a disk is opened. -/
theorem wh_twice {d : D} {st : List Int} (h : Wh d st) (arm : Int) (keep : List Bool) (hsi : ∀ x ∈ (openD (armD d arm)).1.since, Sec x.2) (hfs : ∀ i, Sec ((openD (armD d arm)).1.fast i)) : ∃ d2 d3 : D, (openD (armD d arm)).1 = d2 ∧ d2.cnt ≤ d.cnt + 64 ∧ crashD d2 keep = d3 ∧ Wh d3 st ∧ d3.cnt ≤ d.cnt + 64 ∧ logF d3.fast = logF d.fast := by
  obtain ⟨a1, a2, a3⟩ := open_crash (d := armD d arm) h.sin (by show 64 < d.n; rw [h.n72]; decide) h.sec keep
  have a3' : ∀ i, (crashD (openD (armD d arm)).1 keep).fast i = d.fast i ∨ ∃ x ∈ pgW (fof d.n d.fast), x.1 = i := a3
  rw [h.n72] at a3'
  have hr := replay_same h.sec a3'
  refine ⟨_, _, rfl, a2, rfl, ⟨⟨rfl, rfl⟩, rfl, ?_, crash_sec hfs hsi, fun i hi => ?_⟩, a2, hr.1⟩
  · show (openD (armD d arm)).1.n = 72
    rw [a1]
    exact h.n72
  · rw [hr.2]; exact h.pg i hi
/-- A commit in which the power goes. -/
theorem wh_commit {d : D} {st : List Int} (h : Wh d st) {k : Nat} (hk : k ≤ 1000) (hq : seqTo d 64 ≤ k) (h8 : St st) {lq : List Put_} (hlq : lq.length ≤ 60) (hp : ∀ p ∈ lq, 0 ≤ p.2 ∧ p.2 < 256) (arm : Int) (keep : List Bool) :
    ∃ (d1 d2 : D) (s s' e : Int), openD d = (d1, s, 0) ∧ 0 ≤ s ∧ s < 18446744073709551616 ∧ d1.cnt ≤ d.cnt + 64 ∧ d1.n = 72 ∧ (∀ i : Nat, i < 8 → readW d1 (i : Int) = (d1, pageS st i, 0)) ∧ commitD (armD d1 arm) s (pagesW lq) = (d2, s', e) ∧ (e = 0 ∨ e = 190) ∧ d2.cnt ≤ d.cnt + 192 ∧
      ((∀ i, Sec (d2.fast i)) → (∀ x ∈ d2.since, Sec x.2) → ∃ d3 X, crashD d2 keep = d3 ∧ Wh d3 X ∧ (X = afterS st lq ∨ (X = st ∧ e ≠ 0)) ∧ d3.cnt ≤ d.cnt + 192 ∧ seqTo d3 64 ≤ ((k + 1 : Nat) : Int)) := by
  have hpo := pagesW_ok (l := lq) hp
  have hn : 64 < d.n := by rw [h.n72]; decide
  obtain ⟨d1', d2', d3', s, s', e, o1, o2, o3, o4, o5, o6, o7, o8, o9, o10, o11, o12, o13, o14, o15, o16⟩ := seqs_step (d := d) h.live h.sin hn h.sec (l := pagesW lq) (by rw [h.n72]; exact hpo) arm keep
  obtain ⟨d1, p1, p2, p3, p4, p5, p6, p7⟩ := wh_open h
  have hd : d1' = d1 := by rw [p1] at o1; injection o1 with h1 _; exact h1.symm
  subst hd
  have hids := fun i => replay_idem (n := 72) h.sec i
  have hlog : ∀ i : Nat, i < 64 → d1'.fast (i : Int) = d.fast (i : Int) := by
    intro i hi
    have e1 := (hids 0).1
    have e2 := congrArg (fun l => l.getD i []) e1
    simp only [logF_at _ hi] at e2
    rw [p5]; exact e2
  have hsec1 : ∀ i, Sec (d1'.fast i) := by
    intro i
    rw [p5]
    have hw := writes_crash h.sin (l := fof d.n d.fast) (fof_ok h.sec) []
    unfold replay
    by_cases hh : ∃ x ∈ pgW (fof 72 d.fast), x.1 = i
    · obtain ⟨x, hx, e⟩ := hh
      have : ∀ (l : List (Int × List Int)) (f : Int → List Int), (∀ i, Sec (f i)) → (∀ x ∈ l, Sec x.2) → ∀ i, Sec (applyW l f i) := by
        intro l
        induction l with
        | nil => intro f hf _ i; exact hf i
        | cons y l ih =>
          intro f hf hl i
          refine ih (upd f y) (fun j => ?_) (fun x hx => hl x (List.mem_cons_of_mem _ hx)) i
          unfold upd
          split
          · exact hl y List.mem_cons_self
          · exact hf j
      refine this _ _ h.sec (fun y hy => ?_) i
      obtain ⟨p, hpm, rfl⟩ := List.mem_map.1 hy
      have h2 := pagesOf_ok (logF_ok h.sec) p (List.mem_filter.1 hpm).1
      exact ⟨h2.2.2.2, h2.1⟩
    · rw [applyW_out _ _ _ (fun x hx e => hh ⟨x, hx, e⟩)]; exact h.sec i
  have hseq : ∀ i : Nat, i < 64 → numB (((armD d1' arm).fast (i : Int)).take 8) ≤ s := by
    intro i hi
    show numB ((d1'.fast (i : Int)).take 8) ≤ s
    rw [hlog i hi, o2]
    have := seqTo_ge (d := d) 64 i hi
    rwa [(rd_live h.live h.sin hn hi).1] at this
  have hrep : ∀ i, replay 72 (armD d1' arm).fast i = (armD d1' arm).fast i := by
    intro i
    show replay 72 d1'.fast i = d1'.fast i
    rw [p5]
    exact (hids i).2
  have hlen : (pagesW lq).length ≤ 62 := by unfold pagesW; rw [List.length_map, List.length_take]; omega
  obtain ⟨c1, c2⟩ := commit_crash (d := armD d1' arm) p3 p4 hsec1 o3 (by omega) hseq hrep hpo hlen keep
  rw [o6] at c1 c2
  dsimp only at c1 c2
  refine ⟨d1', d2', s, s', e, o1, o3, o4, o5, p4, p7, o6, c1, o9, fun hs2 hsi2 => ?_⟩
  have hst1 : ∀ i : Nat, i < 8 → (armD d1' arm).fast (64 + (i : Int)) = pageS st i := by
    intro i hi
    show d1'.fast _ = _
    rw [p5]; exact h.pg i hi
  have hn3 : d3'.n = 72 := by rw [o13]; exact h.n72
  have hcf : crashD d2' keep = d3' := o10
  rw [hcf] at c2
  rcases c2 with c2 | ⟨c3, c2⟩
  · exact ⟨d3', afterS st lq, o10, ⟨o11, o12, hn3, by rw [← hcf]; exact crash_sec hs2 hsi2, fun i hi => by rw [c2 _ (by omega)]; exact after_pages h8.1 hst1 lq i hi⟩, .inl rfl, o14, by omega⟩
  · exact ⟨d3', st, o10, ⟨o11, o12, hn3, by rw [← hcf]; exact crash_sec hs2 hsi2, fun i hi => by rw [c2 _ (by omega)]; exact hst1 i hi⟩, .inr ⟨rfl, c3⟩, o14, by omega⟩
end Go.Proofs.Ytmghgghheebnjaa.Dis
namespace Go.Proofs.Ytmghgghheebnjaa.Dis
open Go.RowKit Go.Proofs.YtmghgghheebnjaaW.PrintWords Go.Proofs.YtmghgghheebnjaaW.PrintLast Go.Proofs.YtmghgghheebnjaaW.PrintMore Go.Maps Go.Proofs.Ytmghgghheebnjaa.PWalRecords
set_option linter.unusedVariables false
set_option linter.unusedSimpArgs false
theorem eight {st : List Int} (h : st.length = 8) : ∃ a0 a1 a2 a3 a4 a5 a6 a7, st = [a0, a1, a2, a3, a4, a5, a6, a7] := by
  match st, h with
  | [a0, a1, a2, a3, a4, a5, a6, a7], _ => exact ⟨a0, a1, a2, a3, a4, a5, a6, a7, rfl⟩
theorem cell_st {w : World} {g : Nat} {st : List Int} (h : w.heap[g]? = some (.cells (nums .u8 st).toArray 38 (0, 0))) {k : Nat} (hk : k < st.length) : w.cell? ⟨g, k, none⟩ = some (.int .u8 (st.getD k 0)) := by
  rw [blk_cell h k]
  simp only [nums, List.getElem?_toArray, List.getElem?_map, List.getElem?_eq_getElem hk, Option.map_some, List.getD_eq_getElem?_getD, Option.getD_some]
theorem size38 : (Try.prog.info? 38).map (·.size) = some 8 := by kernel_rfl
theorem add_zero_blk (q j : Nat) : (⟨q, 0, none⟩ : Addr).add j = ⟨q, j, none⟩ := by
  unfold Addr.add
  split
  · rename_i h
    rw [h]
  · rw [Nat.zero_add]
theorem cells_of {w : World} {q : Nat} {cs : List Value} {t : TypeId} (h : w.heap[q]? = some (.cells cs.toArray t (0, 0))) : ∀ j v, cs[j]? = some v → w.cell? ((⟨q, 0, none⟩ : Addr).add j) = some v := fun j v hv => by
  rw [add_zero_blk, blk_cell h j]
  simpa using hv
theorem nums_len (st : List Int) : (nums .u8 st).length = st.length := by unfold nums; exact List.length_map _
theorem st_store {w : World} {g : Nat} {st : List Int} (h8 : st.length = 8) {z : Array Value} (hz : z.size = 8) (h : w.heap[g]? = some (.cells (z.toList.take 0 ++ nums .u8 st ++ z.toList.drop (0 + (nums .u8 st).length)).toArray 38 (0, 0))) : w.heap[g]? = some (.cells (nums .u8 st).toArray 38 (0, 0)) := by
  rw [h, nums_len, h8, List.take_zero, List.nil_append, List.drop_of_length_le (by rw [Array.length_toList, hz]; decide), List.append_nil]
theorem st_set {w : World} {g : Nat} {st : List Int} (h : w.heap[g]? = some (.cells (nums .u8 st).toArray 38 (0, 0))) (k : Nat) (c : Int) : (w.setCell ⟨g, k, none⟩ (.int .u8 c)).heap[g]? = some (.cells (nums .u8 (st.set k c)).toArray 38 (0, 0)) := by
  rw [blk_set h k (Value.int .u8 c)]
  simp only [nums, List.setIfInBounds_toArray, List.map_set]
theorem fold_snoc {st : List Int} {l : List Put_} {k : Nat} (hk : k < l.length) : (l.take (k + 1)).foldl put1 st = put1 ((l.take k).foldl put1 st) (l.getD k (0, 0)) := by
  rw [List.getD_eq_getElem?_getD, List.getElem?_eq_getElem hk, Option.getD_some, ← List.take_append_getElem hk, List.foldl_append]
  rfl
theorem fold_len : ∀ (l : List Put_) (st : List Int), (l.foldl put1 st).length = st.length := by
  intro l
  induction l with
  | nil => intro st; rfl
  | cons p l ih => intro st; show (l.foldl put1 (put1 st p)).length = _; rw [ih]; unfold put1; rw [List.length_set]
theorem rep_inj {a b : Int} (ha : 0 ≤ a ∧ a < 256) (hb : 0 ≤ b ∧ b < 256) (h : (strOfNums (List.replicate 512 a)).toList = (strOfNums (List.replicate 512 b)).toList) : a = b := by
  have h1 := congrArg (fun s : List UInt8 => s[0]?) h
  simp only [Go.Lib.strOfNums_toList, Go.Lib.bytesOf, List.map_replicate] at h1
  have h3 : ∀ x : UInt8, (List.replicate 512 x)[0]? = some x := fun x => rfl
  simp only [h3, Option.some.injEq] at h1
  have h4 := congrArg UInt8.toNat h1
  rw [UInt8.toNat_ofNat', UInt8.toNat_ofNat'] at h4
  omega
set_option maxHeartbeats 8000000 in
set_option maxRecDepth 100000 in
theorem after_calls (W : World) (A : Option Addr) (n c : Nat) (l : List Put_) (st : List Int) (hC : Kd.C putK W A n l) (h8 : st.length = 8) : Calls Try.prog 22 #[.agg (nums .u8 st).toArray, .slice A n c] W fun e w' => e = .returned (.agg (nums .u8 (afterS st l)).toArray) ∧ Below W.heap.size W w' := by
  have HC := Aside0.mk hC
  have HL := Aside0.mk hC.1
  have hmx : n ≤ 9223372036854775807 := hC.2.1
  have H8 := Aside0.mk h8
  obtain ⟨a0, a1, a2, a3, a4, a5, a6, a7, hst⟩ := eight h8
  have HST := Aside0.mk hst
  have hag : (nums .u8 st).toArray = #[.int .u8 a0, .int .u8 a1, .int .u8 a2, .int .u8 a3, .int .u8 a4, .int .u8 a5, .int .u8 a6, .int .u8 a7] := by rw [hst]; rfl
  rw [hag]
  have HAG := Aside0.mk hag
  clear hC h8 hst hag
  go_enter Try.func22, Try.ntmps22
  go_upto_region 1 with fail
  obtain ⟨w1, hw1⟩ : ∃ w1, w1 = (W.alloc (.cells #[.int .u8 a0, .int .u8 a1, .int .u8 a2, .int .u8 a3, .int .u8 a4, .int .u8 a5, .int .u8 a6, .int .u8 a7] 38)).alloc (.cells #[.int .u8 0, .int .u8 0, .int .u8 0, .int .u8 0, .int .u8 0, .int .u8 0, .int .u8 0, .int .u8 0] 38) := ⟨_, rfl⟩
  have hbx := box2 W (.cells #[.int .u8 a0, .int .u8 a1, .int .u8 a2, .int .u8 a3, .int .u8 a4, .int .u8 a5, .int .u8 a6, .int .u8 a7] 38) (.cells #[.int .u8 0, .int .u8 0, .int .u8 0, .int .u8 0, .int .u8 0, .int .u8 0, .int .u8 0, .int .u8 0] 38)
  have hsz : (W.alloc (.cells #[.int .u8 a0, .int .u8 a1, .int .u8 a2, .int .u8 a3, .int .u8 a4, .int .u8 a5, .int .u8 a6, .int .u8 a7] 38)).heap.size = W.heap.size + 1 := Array.size_push _
  try rw [hsz]
  rw [← hw1] at hbx ⊢
  obtain ⟨q1, q2, q3⟩ := hbx
  obtain ⟨gb, hgb⟩ : ∃ gb, gb = W.heap.size := ⟨_, rfl⟩
  obtain ⟨gr, hgr⟩ : ∃ gr, gr = W.heap.size + 1 := ⟨_, rfl⟩
  rw [← hgr, ← hgb]
  rw [← hgb] at q1
  rw [← hgr] at q2
  rw [← HAG.out] at q1
  have HQ1 := Aside0.mk q1
  have HQ2 := Aside0.mk q2
  have HB1 := Aside0.mk q3
  have HG := Aside0.mk (And.intro hgb hgr)
  clear q1 q2 q3 hw1 hsz hgb hgr
  go_wp2_with fail
  go_loopw [5] (fun x wr => ∃ (k : Nat), k ≤ n ∧ k ≤ 70 ∧ x = .int .i64 k ∧ Aside0 (wr.heap[gb]? = some (.cells (nums .u8 ((l.take k).foldl put1 st)).toArray 38 (0, 0))) ∧ Aside0 (wr.heap[gr]? = some (.cells #[.int .u8 0, .int .u8 0, .int .u8 0, .int .u8 0, .int .u8 0, .int .u8 0, .int .u8 0, .int .u8 0] 38 (0, 0))) ∧ Aside0 (Below W.heap.size W wr)) (fun x _ => 70 - (intOf x).toNat)
  case atStart => exact ⟨0, Nat.zero_le _, Nat.zero_le _, rfl, HQ1, HQ2, HB1⟩
  case round =>
    obtain ⟨k, hk, hk7, rfl, HQk, HZk, HBk⟩ := hrel
    by_cases hlt : k < n
    · have f1 : decide ((k : Int) < n) = true := decide_eq_true (by omega)
      by_cases hlt2 : k < 70
      · have f2 : decide ((k : Int) < 70) = true := decide_eq_true (by omega)
        obtain ⟨ad, hA, p0, p1⟩ := atPut (Kd.C_below HC.out HBk.out) k hlt
        subst hA
        have HSN := Aside0.mk (fold_snoc (st := st) (l := l) (k := k) (by rw [HL.out]; exact hlt))
        obtain ⟨p, hp⟩ : ∃ p, p = l.getD k (0, 0) := ⟨_, rfl⟩
        rw [← hp] at p0 p1 HSN
        obtain ⟨no, cc⟩ := p
        dsimp only at p0 p1
        have HPA := Aside0.mk (show ∀ w', Below W.heap.size W w' → w'.cell? (ad.add (k * 2)) = some (.int .i64 no) ∧ w'.cell? ⟨(ad.add (k * 2)).block, (ad.add (k * 2)).off + 1, none⟩ = some (.int .u8 cc) from fun w' hb => by
          obtain ⟨ad2, hA2, h0, h1⟩ := atPut (Kd.C_below HC.out hb) k hlt
          injection hA2 with hA2
          subst hA2
          rw [← hp] at h0 h1
          exact ⟨h0, h1⟩)
        obtain ⟨stk, hstk⟩ : ∃ stk, stk = (l.take k).foldl put1 st := ⟨_, rfl⟩
        have hlk : stk.length = 8 := by rw [hstk, fold_len]; exact H8.out
        rw [← hstk] at HQk HSN
        have hlo : Go.bits .and .i64 no 7 = low3 no := rfl
        obtain ⟨j, hj⟩ : ∃ j : Nat, j = (low3 no).toNat := ⟨_, rfl⟩
        have hj8 : j < 8 := by have := low3_bound no; omega
        have hjn : low3 no = (j : Int) := by have := low3_bound no; omega
        have HJ := Aside0.mk (show put1 stk (no, cc) = stk.set j cc by unfold put1; rw [hj])
        rw [hjn] at hlo
        clear hp p0 p1 hstk hj hjn
        go_upto_region 4 with fail
        have hdr : Below wr.heap.size wr wr.drew := below_drew (Below.refl _ _)
        have HQd := Aside0.mk (show wr.drew.heap[gb]? = some (.cells (nums .u8 stk).toArray 38 (0, 0)) from blk_below HQk.out hdr)
        have HZd := Aside0.mk (blk_below HZk.out hdr)
        have HLd := Aside0.mk (show W.heap.size ≤ wr.drew.heap.size from Nat.le_trans HBk.out.size hdr.size)
        have HBd := Aside0.mk (HBk.out.trans (hdr.mono HBk.out.size))
        refine start_ (n := 13) (S := fun w' => Below W.heap.size W w') (ds := []) #[false, false, false, false, false, false, false, false, false, false, false, false, false] (by kernel_rfl) rfl rfl HBd.out (fun hHeld => ?_)
        generalize wr.drew = wD at hdr hHeld HQd HZd HLd HBd ⊢
        refine pure_ (i := 0) (N := some 16) (v := ?_) (a' := ?_) #[true, false, false, false, false, false, false, false, false, false, false, false, false] rfl rfl (by kernel_rfl) (fun _ _ _ h => h) (Or.inl ⟨by rfl, ?_⟩) ?_ ?_
        rotate_left
        · intro w'
          go_simp
          with_reducible rfl
        rotate_left
        · simp only [Act.put, List.setIfInBounds_toArray, List.set_cons_zero, List.set_cons_succ]
          rfl
        refine pure_ (i := 1) (N := some 17) (v := ?_) (a' := ?_) #[true, true, false, false, false, false, false, false, false, false, false, false, false] rfl rfl (by kernel_rfl) (fun _ _ _ h => h) (Or.inl ⟨by rfl, ?_⟩) ?_ ?_
        rotate_left
        · intro w'
          go_simp
          with_reducible rfl
        rotate_left
        · simp only [Act.put, List.setIfInBounds_toArray, List.set_cons_zero, List.set_cons_succ]
          rfl
        refine pure_ (i := 2) (N := some 18) (v := .pointer (some (ad.add (k * 2)))) (a' := ?_) #[true, true, true, false, false, false, false, false, false, false, false, false, false] rfl rfl (by kernel_rfl) (fun _ _ _ h => h) (Or.inl ⟨by rfl, ?_⟩) ?_ ?_
        · intro w'
          first | (go_simp; done) | (go_simp; rw [if_pos (show k < n by omega)])
        rotate_left
        · simp only [Act.put, List.setIfInBounds_toArray, List.set_cons_zero, List.set_cons_succ]
          rfl
        refine pure_ (i := 3) (N := some 19) (v := ?_) (a' := ?_) #[true, true, true, true, false, false, false, false, false, false, false, false, false] rfl rfl (by kernel_rfl) (fun _ _ _ h => h) (Or.inl ⟨by rfl, ?_⟩) ?_ ?_
        rotate_left
        · intro w'
          go_simp
          with_reducible rfl
        rotate_left
        · simp only [Act.put, List.setIfInBounds_toArray, List.set_cons_zero, List.set_cons_succ]
          rfl
        refine take_ (i := 4) (N := some 20) (v := ?_) (a' := ?_) #[true, true, true, true, true, false, false, false, false, false, false, false, false] rfl rfl (by kernel_rfl) (fun _ _ _ h => h) (Or.inl ⟨by rfl, ?_⟩) hHeld ?_ ?_
        rotate_left
        · intro w' s0
          have s1 := (HPA.out w' s0).1
          go_simp
          with_reducible rfl
        rotate_left
        · simp only [Act.put, List.setIfInBounds_toArray, List.set_cons_zero, List.set_cons_succ]
          rfl
        refine pure_ (i := 5) (N := some 21) (v := .int .i64 (j : Int)) (a' := ?_) #[true, true, true, true, true, true, false, false, false, false, false, false, false] rfl rfl (by kernel_rfl) (fun _ _ _ h => h) (Or.inl ⟨by rfl, ?_⟩) ?_ ?_
        · intro w'
          first | (go_simp; done) | (go_simp; rfl) | (go_simp; rw [hlo])
        rotate_left
        · simp only [Act.put, List.setIfInBounds_toArray, List.set_cons_zero, List.set_cons_succ]
          rfl
        refine pure_ (i := 6) (N := some 22) (v := ?_) (a' := ?_) #[true, true, true, true, true, true, true, false, false, false, false, false, false] rfl rfl (by kernel_rfl) (fun _ _ _ h => h) (Or.inl ⟨by rfl, ?_⟩) ?_ ?_
        rotate_left
        · intro w'
          go_simp
          with_reducible rfl
        rotate_left
        · simp only [Act.put, List.setIfInBounds_toArray, List.set_cons_zero, List.set_cons_succ]
          rfl
        refine pure_ (i := 7) (N := some 23) (v := ?_) (a' := ?_) #[true, true, true, true, true, true, true, true, false, false, false, false, false] rfl rfl (by kernel_rfl) (fun _ _ _ h => h) (Or.inl ⟨by rfl, ?_⟩) ?_ ?_
        rotate_left
        · intro w'
          go_simp
          with_reducible rfl
        rotate_left
        · simp only [Act.put, List.setIfInBounds_toArray, List.set_cons_zero, List.set_cons_succ]
          rfl
        refine pure_ (i := 8) (N := some 24) (v := .pointer (some (ad.add (k * 2)))) (a' := ?_) #[true, true, true, true, true, true, true, true, true, false, false, false, false] rfl rfl (by kernel_rfl) (fun _ _ _ h => h) (Or.inl ⟨by rfl, ?_⟩) ?_ ?_
        · intro w'
          first | (go_simp; done) | (go_simp; rw [if_pos (show k < n by omega)])
        rotate_left
        · simp only [Act.put, List.setIfInBounds_toArray, List.set_cons_zero, List.set_cons_succ]
          rfl
        refine pure_ (i := 9) (N := some 25) (v := ?_) (a' := ?_) #[true, true, true, true, true, true, true, true, true, true, false, false, false] rfl rfl (by kernel_rfl) (fun _ _ _ h => h) (Or.inl ⟨by rfl, ?_⟩) ?_ ?_
        rotate_left
        · intro w'
          go_simp
          with_reducible rfl
        rotate_left
        · simp only [Act.put, List.setIfInBounds_toArray, List.set_cons_zero, List.set_cons_succ]
          rfl
        refine take_ (i := 10) (N := some 26) (v := ?_) (a' := ?_) #[true, true, true, true, true, true, true, true, true, true, true, false, false] rfl rfl (by kernel_rfl) (fun _ _ _ h => h) (Or.inl ⟨by rfl, ?_⟩) hHeld ?_ ?_
        rotate_left
        · intro w' s0
          have s1 := (HPA.out w' s0).2
          go_simp
          with_reducible rfl
        rotate_left
        · simp only [Act.put, List.setIfInBounds_toArray, List.set_cons_zero, List.set_cons_succ]
          rfl
        refine pure_ (i := 11) (N := some 27) (v := .pointer (some ⟨gb, j, none⟩)) (a' := ?_) #[true, true, true, true, true, true, true, true, true, true, true, true, false] rfl rfl (by kernel_rfl) (fun _ _ _ h => h) (Or.inl ⟨by rfl, ?_⟩) ?_ ?_
        · intro w'
          first | (go_simp; done) | (go_simp; intro h9; exfalso; omega)
        rotate_left
        · simp only [Act.put, List.setIfInBounds_toArray, List.set_cons_zero, List.set_cons_succ]
          rfl
        have hq8 := st_set HQd.out j cc
        have hcl := cell_st HQd.out (show j < stk.length by omega)
        have hfz := blk_frozen HQd.out j
        have hne : gr ≠ gb := by have := HG.out; omega
        have hz8 : (wD.setCell ⟨gb, j, none⟩ (.int .u8 cc)).heap[gr]? = some (.cells #[.int .u8 0, .int .u8 0, .int .u8 0, .int .u8 0, .int .u8 0, .int .u8 0, .int .u8 0, .int .u8 0] 38 (0, 0)) := (Below.heap_setCell wD ⟨gb, j, none⟩ (.int .u8 cc) gr hne).trans HZd.out
        have hb8 : Below W.heap.size W (wD.setCell ⟨gb, j, none⟩ (.int .u8 cc)) := HBd.out.setCell (Nat.le_of_eq HG.out.1.symm) _
        refine one_ (i := 12) (N := none) #[true, true, true, true, true, true, true, true, true, true, true, true, true] rfl rfl (by kernel_rfl) (by decide) (fun K hK => ?_)
        refine skip_ rfl rfl (w1 := wD.setCell ⟨gb, j, none⟩ (.int .u8 cc)) (by first | (go_simp; done) | (go_simp; rfl)) ?_
        refine hK.out _ _ hb8 (fun hHeld => ?_)
        clear hK K 
        refine done_ (by kernel_rfl) ?_
        clear hfz hcl
        generalize wD.setCell ⟨gb, j, none⟩ (.int .u8 cc) = w8 at hq8 hz8 hb8 ⊢
        have HQ8 := Aside0.mk hq8
        have HZ8 := Aside0.mk hz8
        have HB8 := Aside0.mk hb8
        clear hq8 hz8 hb8 hHeld
        go_wp2
        go_roundw
        case rel => exact ⟨k + 1, by omega, by omega, by go_num, ⟨by rw [HSN.out, HJ.out]; exact HQ8.out⟩, HZ8, HB8⟩
        case measure => simp [intOf]; omega
      · obtain rfl : k = 70 := by omega
        have f2 : decide (((70 : Nat) : Int) < 70) = false := by decide
        have haf : afterS st l = (l.take 70).foldl put1 st := by unfold afterS; rfl
        obtain ⟨stk, hstk⟩ : ∃ stk, stk = (l.take 70).foldl put1 st := ⟨_, rfl⟩
        have HLK := Aside0.mk (show stk.length = 8 by rw [hstk, fold_len]; exact H8.out)
        rw [← hstk] at HQk haf
        have HAF := Aside0.mk haf
        clear haf hstk
        go_wp2_with (first
          | ((with_reducible refine gate_dst (N := 28) rfl ?_); refine wl_load 38 (.tmp 2) rfl rfl ⟨gb, 0, none⟩ (nums .u8 stk) rfl _ Try.underlying38 rfl (by rw [nums_len, HLK.out]; exact size38) (cells_of HQk.out) ?_)
          | ((with_reducible refine gate_store (t := 38) (p := 4) rfl ?_); refine wl_store 38 (.tmp 4) (.tmp 28) rfl rfl rfl gr 0 (nums .u8 stk) rfl rfl _ 38 (by rw [nums_len, HLK.out]; exact size38) HZk.out (by rw [nums_len, HLK.out]; decide) (nums_one stk) ?_; intro w9 hb9 hgr; have HZ9 := Aside0.mk (st_store HLK.out rfl hb9); have HB9 := Aside0.mk (HBk.out.grown hgr HBk.out.size (fun i hi => by cases hi; have := HG.out; omega)); clear hb9 hgr))
        ((try simp only [Exit.inBlock, Exit.then]); refine bodyPost_ret (results_cell_row rfl _ _ gr 38 (nums .u8 stk).toArray (0, 0) _ rfl HZ9.out Try.underlying38 rfl (by rw [List.size_toArray, nums_len, HLK.out]; exact size38)) rfl ?_)
        exact ⟨by rw [HAF.out], HB9.out⟩
    · obtain rfl : k = n := by omega
      have f1 : decide ((k : Int) < k) = false := decide_eq_false (by omega)
      have haf : afterS st l = (l.take k).foldl put1 st := by unfold afterS; rw [List.take_of_length_le (by rw [HL.out]; omega), List.take_of_length_le (by rw [HL.out]; exact Nat.le_refl _)]
      obtain ⟨stk, hstk⟩ : ∃ stk, stk = (l.take k).foldl put1 st := ⟨_, rfl⟩
      have HLK := Aside0.mk (show stk.length = 8 by rw [hstk, fold_len]; exact H8.out)
      rw [← hstk] at HQk haf
      have HAF := Aside0.mk haf
      clear haf hstk
      go_wp2_with (first
        | ((with_reducible refine gate_dst (N := 28) rfl ?_); refine wl_load 38 (.tmp 2) rfl rfl ⟨gb, 0, none⟩ (nums .u8 stk) rfl _ Try.underlying38 rfl (by rw [nums_len, HLK.out]; exact size38) (cells_of HQk.out) ?_)
        | ((with_reducible refine gate_store (t := 38) (p := 4) rfl ?_); refine wl_store 38 (.tmp 4) (.tmp 28) rfl rfl rfl gr 0 (nums .u8 stk) rfl rfl _ 38 (by rw [nums_len, HLK.out]; exact size38) HZk.out (by rw [nums_len, HLK.out]; decide) (nums_one stk) ?_; intro w9 hb9 hgr; have HZ9 := Aside0.mk (st_store HLK.out rfl hb9); have HB9 := Aside0.mk (HBk.out.grown hgr HBk.out.size (fun i hi => by cases hi; have := HG.out; omega)); clear hb9 hgr))
      ((try simp only [Exit.inBlock, Exit.then]); refine bodyPost_ret (results_cell_row rfl _ _ gr 38 (nums .u8 stk).toArray (0, 0) _ rfl HZ9.out Try.underlying38 rfl (by rw [List.size_toArray, nums_len, HLK.out]; exact size38)) rfl ?_)
      exact ⟨by rw [HAF.out], HB9.out⟩
set_option maxHeartbeats 8000000 in
set_option maxRecDepth 100000 in
theorem is_calls (base gw g : Nat) (s : Int) (d : D) (st X : List Int) (h8 : St st) (hX : St X) (w W : World) (hw : IsWl W gw g s) (h : IsD base W g d) (hB : Below base w W) (hbase : base ≤ w.heap.size) (hcnt : d.cnt ≤ 1000000) (hrd : ∀ i : Nat, i < 8 → readW d (i : Int) = (d, pageS X i, 0)) :
    Calls Try.prog 18 #[.agg (nums .u8 st).toArray, .pointer (some ⟨gw, 0, none⟩)] W fun e w' => ∃ r, e = .returned (.bool r) ∧ (r = true → st = X) ∧ (st = X → r = true) ∧ IsD base w' g d ∧ IsWl w' gw g s ∧ Below base w w' ∧ KeepD W w' := by
  have HD := Aside0.mk h
  have HW := Aside0.mk hw
  have HB := Aside0.mk hB
  have HBS := Aside0.mk hbase
  have HCN := Aside0.mk hcnt
  have HRD := Aside0.mk hrd
  have HS8 := Aside0.mk h8
  have HX8 := Aside0.mk hX
  obtain ⟨a0, a1, a2, a3, a4, a5, a6, a7, hst⟩ := eight h8.1
  have hag : (nums .u8 st).toArray = #[.int .u8 a0, .int .u8 a1, .int .u8 a2, .int .u8 a3, .int .u8 a4, .int .u8 a5, .int .u8 a6, .int .u8 a7] := by rw [hst]; rfl
  rw [hag]
  have HAG := Aside0.mk hag
  clear h hw hB hbase hcnt hrd h8 hX hst hag
  go_enter Try.func18, Try.ntmps18
  go_upto_region 1 with fail
  obtain ⟨w1, hw1⟩ : ∃ w1, w1 = W.alloc (.cells #[.int .u8 a0, .int .u8 a1, .int .u8 a2, .int .u8 a3, .int .u8 a4, .int .u8 a5, .int .u8 a6, .int .u8 a7] 38) := ⟨_, rfl⟩
  obtain ⟨gb, hgb⟩ : ∃ gb, gb = W.heap.size := ⟨_, rfl⟩
  have hb1 : Below W.heap.size W w1 := by rw [hw1]; exact below_alloc (Below.refl _ _) _
  have hq1 : w1.heap[gb]? = some (.cells (nums .u8 st).toArray 38 (0, 0)) := by rw [hw1, hgb, HAG.out]; exact blk_new W _
  rw [← hw1, ← hgb]
  have HQ1 := Aside0.mk hq1
  have HD1 := Aside0.mk (HD.out.below hb1)
  have HW1 := Aside0.mk (HW.out.below hb1)
  have HB1 := Aside0.mk (HB.out.trans (hb1.mono (Nat.le_trans HBS.out HB.out.size)))
  have HK1 := Aside0.mk (KeepD.of_below hb1)
  clear hw1 hgb hb1 hq1
  go_wp2_with fail
  go_loopw [5] (fun x wr => ∃ (k : Nat), k ≤ 8 ∧ x = .int .i64 k ∧ Aside0 (∀ i, i < k → st.getD i 0 = X.getD i 0) ∧ Aside0 (IsD base wr g d) ∧ Aside0 (IsWl wr gw g s) ∧ Aside0 (Below base w wr) ∧ Aside0 (KeepD W wr) ∧ Aside0 (wr.heap[gb]? = some (.cells (nums .u8 st).toArray 38 (0, 0)))) (fun x _ => 8 - (intOf x).toNat)
  case atStart => exact ⟨0, Nat.zero_le _, rfl, ⟨fun i hi => absurd hi (Nat.not_lt_zero _)⟩, HD1, HW1, HB1, HK1, HQ1⟩
  case round =>
    obtain ⟨k, hk, rfl, HEk, HDk, HWk, HBk, HKk, HQk⟩ := hrel
    by_cases hlt : k < 8
    · have f1 : decide ((k : Int) < 8) = true := decide_eq_true (by omega)
      have hrd := wread_c base gw g s d (k : Int) ⟨by omega, by omega⟩ w wr HWk.out HDk.out HBk.out HCN.out
      rw [HRD.out k hlt] at hrd
      obtain ⟨b, hb⟩ : ∃ b, b = pageS X k := ⟨_, rfl⟩
      rw [← hb] at hrd
      have HRDk := Aside0.mk hrd
      have HBE := Aside0.mk hb
      obtain ⟨lb, hlb⟩ : ∃ lb, lb = b.length := ⟨_, rfl⟩
      have HLB := Aside0.mk hlb
      clear hb hrd hlb
      go_upto_region 5 with (go_at_call 30; refine HRDk.out.mono ?_; rintro e w12 ⟨v12, rfl, h1, h2, h3, h4⟩; have HD12 := Aside0.mk h1; have HB12 := Aside0.mk h2; have HW12 := Aside0.mk (HWk.out.keep h3); have HK12 := Aside0.mk (HKk.out.trans h3); have HQ12 := Aside0.mk (h3.2 _ _ _ _ HQk.out (by decide) (by decide)); obtain ⟨A12, c12, e12⟩ := Kd.R_slice h4; rw [show ((d, b, (0 : Int)).2.1).length = lb from HLB.out.symm] at e12; subst e12; have HC12 := Aside0.mk (show Kd.C byteK w12 A12 lb b by have h := (Kd.R_reads' h4).2.2; rw [HLB.out]; exact h); clear h1 h2 h3 h4)
      obtain ⟨ek, hek0⟩ : ∃ ek, ek = st.getD k 0 := ⟨_, rfl⟩
      have HEK := Aside0.mk hek0
      clear hek0
      have hdr : Below w12.heap.size w12 w12.drew := below_drew (Below.refl _ _)
      refine start_ (n := 14) (S := fun w' => Kd.C byteK w' A12 lb b ∧ w'.cell? ⟨gb, k, none⟩ = some (.int .u8 ek) ∧ Below w12.heap.size w12 w') (ds := []) #[false, false, false, false, false, false, false, false, false, false, false, false, false, false] (by kernel_rfl) rfl rfl ⟨Kd.C_below HC12.out hdr, by rw [HEK.out]; exact cell_st (blk_below HQ12.out hdr) (by rw [HS8.out.1]; exact hlt), hdr⟩ (fun hHeld => ?_)
      generalize w12.drew = wD at hdr hHeld ⊢
      refine pure_ (i := 0) (N := some 18) (v := ?_) (a' := ?_) #[true, false, false, false, false, false, false, false, false, false, false, false, false, false] rfl rfl (by kernel_rfl) (fun _ _ _ h => h) (Or.inl ⟨by rfl, ?_⟩) ?_ ?_
      rotate_left
      · intro w'
        go_simp
        with_reducible rfl
      rotate_left
      · simp only [Act.put, List.setIfInBounds_toArray, List.set_cons_zero, List.set_cons_succ]
        rfl
      refine pure_ (i := 1) (N := some 19) (v := ?_) (a' := ?_) #[true, true, false, false, false, false, false, false, false, false, false, false, false, false] rfl rfl (by kernel_rfl) (fun _ _ _ h => h) (Or.inl ⟨by rfl, ?_⟩) ?_ ?_
      rotate_left
      · intro w'
        go_simp
        with_reducible rfl
      rotate_left
      · simp only [Act.put, List.setIfInBounds_toArray, List.set_cons_zero, List.set_cons_succ]
        rfl
      refine pure_ (i := 2) (N := some 20) (v := ?_) (a' := ?_) #[true, true, true, false, false, false, false, false, false, false, false, false, false, false] rfl rfl (by kernel_rfl) (fun _ _ _ h => h) (Or.inl ⟨by rfl, ?_⟩) ?_ ?_
      rotate_left
      · intro w'
        go_simp
        with_reducible rfl
      rotate_left
      · simp only [Act.put, List.setIfInBounds_toArray, List.set_cons_zero, List.set_cons_succ]
        rfl
      refine pure_ (i := 3) (N := some 21) (v := ?_) (a' := ?_) #[true, true, true, true, false, false, false, false, false, false, false, false, false, false] rfl rfl (by kernel_rfl) (fun _ _ _ h => h) (Or.inl ⟨by rfl, ?_⟩) ?_ ?_
      rotate_left
      · intro w'
        go_simp
        with_reducible rfl
      rotate_left
      · simp only [Act.put, List.setIfInBounds_toArray, List.set_cons_zero, List.set_cons_succ]
        rfl
      refine take_ (i := 4) (N := some 22) (v := .string (strOfNums b)) (a' := ?_) #[true, true, true, true, true, false, false, false, false, false, false, false, false, false] rfl rfl (by kernel_rfl) (fun _ _ _ h => h) (Or.inl ⟨by rfl, ?_⟩) hHeld ?_ ?_
      · intro w' s0
        exact exec_conv (x := .tmp 21) rfl rfl (bytes_string (c := c12) s0.1)
      rotate_left
      · simp only [Act.put, List.setIfInBounds_toArray, List.set_cons_zero, List.set_cons_succ]
        rfl
      refine pure_ (i := 5) (N := some 23) (v := ?_) (a' := ?_) #[true, true, true, true, true, true, false, false, false, false, false, false, false, false] rfl rfl (by kernel_rfl) (fun _ _ _ h => h) (Or.inl ⟨by rfl, ?_⟩) ?_ ?_
      rotate_left
      · intro w'
        go_simp
        with_reducible rfl
      rotate_left
      · simp only [Act.put, List.setIfInBounds_toArray, List.set_cons_zero, List.set_cons_succ]
        rfl
      refine pure_ (i := 6) (N := some 24) (v := ?_) (a' := ?_) #[true, true, true, true, true, true, true, false, false, false, false, false, false, false] rfl rfl (by kernel_rfl) (fun _ _ _ h => h) (Or.inl ⟨by rfl, ?_⟩) ?_ ?_
      rotate_left
      · intro w'
        go_simp
        with_reducible rfl
      rotate_left
      · simp only [Act.put, List.setIfInBounds_toArray, List.set_cons_zero, List.set_cons_succ]
        rfl
      refine pure_ (i := 7) (N := some 25) (v := .pointer (some ⟨gb, k, none⟩)) (a' := ?_) #[true, true, true, true, true, true, true, true, false, false, false, false, false, false] rfl rfl (by kernel_rfl) (fun _ _ _ h => h) (Or.inl ⟨by rfl, ?_⟩) ?_ ?_
      · intro w'
        first | (go_simp; done) | (go_simp; intro h9; exfalso; omega)
      rotate_left
      · simp only [Act.put, List.setIfInBounds_toArray, List.set_cons_zero, List.set_cons_succ]
        rfl
      refine take_ (i := 8) (N := some 26) (v := ?_) (a' := ?_) #[true, true, true, true, true, true, true, true, true, false, false, false, false, false] rfl rfl (by kernel_rfl) (fun _ _ _ h => h) (Or.inl ⟨by rfl, ?_⟩) hHeld ?_ ?_
      rotate_left
      · intro w' s0
        have s1 := s0.2.1
        go_simp
        with_reducible rfl
      rotate_left
      · simp only [Act.put, List.setIfInBounds_toArray, List.set_cons_zero, List.set_cons_succ]
        rfl
      refine one_ (i := 9) (N := some 27) #[true, true, true, true, true, true, true, true, true, true, false, false, false, false] rfl rfl (by kernel_rfl) (by decide) (fun K hK => ?_)
      refine goes_ Try.func25 (by kernel_rfl) rfl #[.int .i64 (k : Int), .int .u8 ek] (by rfl) rfl rfl (by (try simp only [List.map_toArray, List.map_cons, List.map_nil]); first | done | rfl) ?_
      refine (page_c wD (k : Int) ek).mono ?_
      rintro e w13 ⟨A13, c13, rfl, h1, h2⟩
      refine ⟨_, rfl, ?_⟩
      have hs13 : Kd.C byteK w13 A12 lb b ∧ w13.cell? ⟨gb, k, none⟩ = some (.int .u8 ek) ∧ Below w12.heap.size w12 w13 := ⟨Kd.C_below hHeld.1 h2, (h2.cell (World.block_lt_of_cell? _ _ hHeld.2.1)).trans hHeld.2.1, hHeld.2.2.trans (h2.mono hHeld.2.2.size)⟩
      have hr13 := (Kd.R_reads' h1).2.2
      refine hK.out _ _ hs13 (fun hHeld => ?_)
      clear hK K h1 h2
      refine pure_ (i := 10) (N := some 28) (v := .slice A13 512 c13) (a' := ?_) #[true, true, true, true, true, true, true, true, true, true, true, false, false, false] rfl rfl (by kernel_rfl) (fun _ _ _ h => h) (Or.inl ⟨by rfl, ?_⟩) ?_ ?_
      · intro w'
        first | (go_simp; done) | (go_simp; rfl) | (go_simp; kernel_rfl)
      rotate_left
      · simp only [Act.put, List.setIfInBounds_toArray, List.set_cons_zero, List.set_cons_succ]
        rfl
      obtain ⟨sx, hsx⟩ : ∃ sx, sx = strOfNums (List.replicate 512 ek) := ⟨_, rfl⟩
      have HSX := Aside0.mk hsx
      clear hsx
      refine one_ (i := 11) (N := some 29) #[true, true, true, true, true, true, true, true, true, true, true, true, false, false] rfl rfl (by kernel_rfl) (by decide) (fun K hK => ?_)
      refine value_ (by rfl) rfl (v := .string sx) (w1 := w13) (exec_conv (x := .tmp 28) rfl rfl (by rw [HSX.out]; exact bytes_string (c := c13) hr13)) ?_
      refine hK.out _ _ hs13 (fun hHeld => ?_)
      clear hK K 
      by_cases hq : ek = X.getD k 0
      · have hbe : (strOfNums b).toList = sx.toList := by rw [HSX.out, show List.replicate 512 ek = b by rw [HBE.out, hq]; rfl]
        refine pure_ (i := 12) (N := some 30) (v := .bool false) (a' := ?_) #[true, true, true, true, true, true, true, true, true, true, true, true, true, false] rfl rfl (by kernel_rfl) (fun _ _ _ h => h) (Or.inl ⟨by rfl, ?_⟩) ?_ ?_
        · intro w'
          first | (go_simp; done) | (go_simp; rw [hbe]) | (go_simp; simp [hbe])
        rotate_left
        · simp only [Act.put, List.setIfInBounds_toArray, List.set_cons_zero, List.set_cons_succ]
          rfl
        refine pure_ (i := 13) (N := some 31) (v := .bool false) (a' := ?_) #[true, true, true, true, true, true, true, true, true, true, true, true, true, true] rfl rfl (by kernel_rfl) (fun _ _ _ h => h) (Or.inl ⟨by rfl, ?_⟩) ?_ ?_
        · intro w'
          first | (go_simp; done) | (go_simp; rfl)
        rotate_left
        · simp only [Act.put, List.setIfInBounds_toArray, List.set_cons_zero, List.set_cons_succ]
          rfl
        refine done_ (by kernel_rfl) ?_
        go_wp2
        go_roundw
        case rel => exact ⟨k + 1, by omega, by go_num, ⟨fun i hi => by by_cases e : i = k; (· rw [e, ← HEK.out]; exact hq); (· exact HEk.out i (by omega))⟩, ⟨HD12.out.below hs13.2.2⟩, ⟨HW12.out.below hs13.2.2⟩, ⟨HB12.out.trans (hs13.2.2.mono (Nat.le_trans HBS.out HB12.out.size))⟩, ⟨HK12.out.trans (KeepD.of_below hs13.2.2)⟩, ⟨blk_below HQ12.out hs13.2.2⟩⟩
        case measure => simp [intOf]; omega
      · have hbe : ¬ (strOfNums b).toList = sx.toList := by
          intro e
          rw [HBE.out, HSX.out] at e
          refine hq (rep_inj ?_ ?_ e).symm
          · rw [List.getD_eq_getElem?_getD, List.getElem?_eq_getElem (by rw [HX8.out.1]; exact hlt)]
            exact HX8.out.2 _ (List.getElem_mem _)
          · rw [HEK.out, List.getD_eq_getElem?_getD, List.getElem?_eq_getElem (by rw [HS8.out.1]; exact hlt)]
            exact HS8.out.2 _ (List.getElem_mem _)
        refine pure_ (i := 12) (N := some 30) (v := .bool true) (a' := ?_) #[true, true, true, true, true, true, true, true, true, true, true, true, true, false] rfl rfl (by kernel_rfl) (fun _ _ _ h => h) (Or.inl ⟨by rfl, ?_⟩) ?_ ?_
        · intro w'
          first | (go_simp; done) | (go_simp; rw [hbe]) | (go_simp; simp [hbe])
        rotate_left
        · simp only [Act.put, List.setIfInBounds_toArray, List.set_cons_zero, List.set_cons_succ]
          rfl
        refine pure_ (i := 13) (N := some 31) (v := .bool true) (a' := ?_) #[true, true, true, true, true, true, true, true, true, true, true, true, true, true] rfl rfl (by kernel_rfl) (fun _ _ _ h => h) (Or.inl ⟨by rfl, ?_⟩) ?_ ?_
        · intro w'
          first | (go_simp; done) | (go_simp; rfl)
        rotate_left
        · simp only [Act.put, List.setIfInBounds_toArray, List.set_cons_zero, List.set_cons_succ]
          rfl
        refine done_ (by kernel_rfl) ?_
        go_wp2
        go_ret
        exact ⟨false, rfl, fun e => absurd e (by decide), fun e => absurd (by rw [HEK.out, e]) hq, HD12.out.below hs13.2.2, HW12.out.below hs13.2.2, HB12.out.trans (hs13.2.2.mono (Nat.le_trans HBS.out HB12.out.size)), HK12.out.trans (KeepD.of_below hs13.2.2)⟩
    · obtain rfl : k = 8 := by omega
      have f1 : decide (((8 : Nat) : Int) < 8) = false := by decide
      go_wp2
      go_ret
      refine ⟨true, rfl, fun _ => ?_, fun _ => rfl, HDk.out, HWk.out, HBk.out, HKk.out⟩
      apply List.ext_getElem
      · rw [HS8.out.1, HX8.out.1]
      · intro i h1 h2
        have := HEk.out i (by rw [← HS8.out.1]; exact h1)
        rw [List.getD_eq_getElem?_getD, List.getD_eq_getElem?_getD, List.getElem?_eq_getElem h1, List.getElem?_eq_getElem h2] at this
        exact this
end Go.Proofs.Ytmghgghheebnjaa.Dis
namespace Go.Proofs.Ytmghgghheebnjaa.Dis
open Go.RowKit Go.Proofs.YtmghgghheebnjaaW.PrintWords Go.Proofs.YtmghgghheebnjaaW.PrintLast Go.Proofs.YtmghgghheebnjaaW.PrintMore Go.Maps Go.Proofs.Ytmghgghheebnjaa.PWalRecords
set_option linter.unusedVariables false
set_option linter.unusedSimpArgs false
theorem info4' : (Try.prog.info? 4).map (fun i => (i.zero, i.size, i.bytes)) = some (some (.bool false), 1, 1) := by kernel_rfl
theorem cell_on {w w1 : World} {p : Addr} {v : Value} (h : w.cell? p = some v) (hb : Below w.heap.size w w1) : w1.cell? p = some v := (hb.cell (World.block_lt_of_cell? w p h)).trans h
theorem lies_bool {W : World} {b0 : Nat} {ok : Nat → Prop} {A : Option Addr} {c : Nat} {b : List Bool} (h : Kd.R Kd.bool 4 W b0 ok (.slice A b.length c) b) : ∀ W', KeepD W W' → Kd.C Kd.bool W' A b.length b := fun W' hk =>
  (Kd.R_reads' (R_keep h hk.w (by intro q hq; simp [Kd.bool, Kd.scalar] at hq; omega))).2.2
theorem on_att : ∀ (d : List Bool) (j : Nat), (on d j).getD j true = true
  | [], j => by cases j <;> rfl
  | b :: bs, 0 => rfl
  | b :: bs, j + 1 => by
    have := on_att bs j
    simpa [on] using this
theorem on_net : ∀ (d : List Bool) (j i : Nat), i ≠ j → (on d j).getD i true = d.getD i true
  | [], j, i, _ => rfl
  | b :: bs, 0, 0, h => absurd rfl h
  | b :: bs, 0, i + 1, h => rfl
  | b :: bs, j + 1, 0, h => rfl
  | b :: bs, j + 1, i + 1, h => by
    have := on_net bs j i (by omega)
    simpa [on] using this
theorem wh_seq {d d' : D} {st st' : List Int} (h : Wh d st) (h' : Wh d' st') (hl : logF d'.fast = logF d.fast) : seqTo d' 64 = seqTo d 64 := by
  refine seqTo_congr 64 (fun i hi => ?_)
  rw [(rd_live h'.live h'.sin (by rw [h'.n72]; decide) hi).1, (rd_live h.live h.sin (by rw [h.n72]; decide) hi).1, ← logF_at d'.fast hi, hl, logF_at d.fast hi]
theorem wh_open2 {d d1 : D} {st : List Int} (h : Wh d st) (hl : Live d1) (hs : d1.since = []) (hn : d1.n = 72) (hf : d1.fast = replay 72 d.fast) (hsec : ∀ i, Sec (d1.fast i)) : Wh d1 st ∧ seqTo d1 64 = seqTo d 64 := by
  have h1 := fun i => replay_idem (n := 72) h.sec i
  have hw : Wh d1 st := ⟨hl, hs, hn, hsec, fun i hi => by rw [hf, (h1 _).2]; exact h.pg i hi⟩
  exact ⟨hw, wh_seq h hw (by rw [hf]; exact (h1 0).1)⟩
theorem wh_fresh : Wh (freshD 72) (List.replicate 8 0) := by
  refine ⟨⟨rfl, rfl⟩, rfl, rfl, fun i => sec_zeros, fun i hi => ?_⟩
  have hf : fof 72 (freshD 72).fast = [] := by
    unfold fof
    rw [pages_zero (f := (freshD 72).fast) rfl]
    rfl
  unfold replay
  rw [hf]
  show zeros = pageS _ i
  unfold pageS zeros
  rw [List.getD_eq_getElem?_getD, List.getElem?_replicate, if_pos hi, Option.getD_some]
set_option maxRecDepth 100000 in
theorem seq_fresh : seqTo (freshD 72) 64 = 0 := by
  have := open_fresh (n := 72) (by decide)
  rw [openD_live ⟨rfl, rfl⟩ rfl (by decide)] at this
  injection this with _ h
  injection h
theorem IsD.secs {base g : Nat} {w : World} {d : D} (h : IsD base w g d) : ∀ x ∈ d.since, Sec x.2 := fun x hx => (h.1.at_ x hx).2.2
/-- A block that is there when a state's box is written anew. -/
theorem setRow_block {w : World} {g k : Nat} {cs : Array Value} {o : Obj} (h : w.heap[k]? = some o) (hne : k ≠ g) : (w.setRow g cs).heap[k]? = some o :=
  ((setRow_grown w g cs).block k (by obtain ⟨h1, _⟩ := Array.getElem?_eq_some_iff.1 h; exact h1) (fun e => hne (by injection e))).trans h
set_option maxHeartbeats 64000000 in
set_option maxRecDepth 100000 in
theorem whole_calls (W : World) (l t : List Act_) (A B : Option Addr) (ca cb R : Nat) (hC : Kd.C actK W A l.length l) (hca : l.length ≤ ca) (hCt : Kd.C actK W B t.length t) (hcb : t.length ≤ cb) (hR : R ≤ 140737488351232) (hok : ∀ a ∈ l, OkA a R) (hokt : ∀ a ∈ t, OkA a R) :
    Calls Try.prog 4 #[.slice A l.length ca, .slice B t.length cb] W fun e w' => e = .returned (.bool true) ∧ Below W.heap.size W w' := by
  obtain ⟨n, hn⟩ : ∃ n, n = l.length := ⟨_, rfl⟩
  obtain ⟨tn, htn⟩ : ∃ tn, tn = t.length := ⟨_, rfl⟩
  have hmx : n ≤ 9223372036854775807 := by rw [hn]; exact hC.2.1
  have hmt : tn ≤ 9223372036854775807 := by rw [htn]; exact hCt.2.1
  rw [← hn] at hC hca ⊢
  rw [← htn] at hCt hcb ⊢
  have HC := Aside0.mk hC
  have HN := Aside0.mk hn
  have HOK := Aside0.mk hok
  have HT := Aside0.mk hCt
  have HTN := Aside0.mk htn
  have HOT := Aside0.mk hokt
  have INF := Aside0.mk info4'
  clear hC hn hok hCt htn hokt
  go_enter Try.func4, Try.ntmps4
  go_upto_region 2 with (go_at_call 16; refine (new_calls 72 W).mono ?_; rintro e w1 ⟨g, rfl, h1, h2, h3⟩; rw [new_fresh (by decide) (by decide)] at h1; have HD1 := Aside0.mk h1; have HB1 := Aside0.mk h3; clear h1 h2 h3)
  go_upto_region 3 with fail
  obtain ⟨w2, hw2⟩ : ∃ w2, w2 = w1.alloc (.cells #[.int .u8 0, .int .u8 0, .int .u8 0, .int .u8 0, .int .u8 0, .int .u8 0, .int .u8 0, .int .u8 0] 38) := ⟨_, rfl⟩
  obtain ⟨gs, hgs⟩ : ∃ gs, gs = w1.heap.size := ⟨_, rfl⟩
  have hb2 : Below w1.heap.size w1 w2 := by rw [hw2]; exact below_alloc (Below.refl _ _) _
  have hq2 : w2.heap[gs]? = some (.cells (nums .u8 (List.replicate 8 0)).toArray 38 (0, 0)) := by rw [hw2, hgs]; exact blk_new w1 _
  rw [← hw2, ← hgs]
  have HS2 := Aside0.mk hq2
  have HD2 := Aside0.mk (HD1.out.below hb2)
  have HB2 := Aside0.mk (HB1.out.trans (hb2.mono HB1.out.size))
  have HGS := Aside0.mk (show W.heap.size ≤ gs by rw [hgs]; exact HB1.out.size)
  clear hw2 hgs hb2 hq2
  go_wp2_with fail
  go_loopw [7] (fun x wr => ∃ (k : Nat) (d : D) (st : List Int), k ≤ n ∧ k ≤ 6 ∧ x = .int .i64 k ∧ Aside0 (IsD W.heap.size wr g d) ∧ Aside0 (Below W.heap.size W wr) ∧ Aside0 (wr.heap[gs]? = some (.cells (nums .u8 st).toArray 38 (0, 0))) ∧ Aside0 (Wh d st ∧ St st ∧ d.cnt ≤ 448 * k ∧ seqTo d 64 ≤ k)) (fun x _ => 6 - (intOf x).toNat)
  case atStart => exact ⟨0, freshD 72, List.replicate 8 0, Nat.zero_le _, Nat.zero_le _, rfl, HD2, HB2, HS2, ⟨wh_fresh, ⟨by simp, fun x hx => by rw [(List.mem_replicate.1 hx).2]; decide⟩, Nat.zero_le _, Int.le_of_eq seq_fresh⟩⟩
  case round =>
    obtain ⟨k, d, st, hk, hk6, rfl, HDk, HBk, HSk, HFk⟩ := hrel
    by_cases hlt : k < n
    · have f1 : decide ((k : Int) < n) = true := decide_eq_true (by omega)
      by_cases hlt2 : k < 6
      · have f2 : decide ((k : Int) < 6) = true := decide_eq_true (by omega)
        obtain ⟨a0, a1, a2, a3, a4, a5, a6, a7, hst⟩ := eight HFk.out.2.1.1
        have hag : (nums .u8 st).toArray = #[.int .u8 a0, .int .u8 a1, .int .u8 a2, .int .u8 a3, .int .u8 a4, .int .u8 a5, .int .u8 a6, .int .u8 a7] := by rw [hst]; rfl
        rw [hag] at HSk
        have HAG := Aside0.mk hag
        clear hst hag
        obtain ⟨ad, A0, c0, A2, c2, hA, hc0, hc1, hc2, hle0, hC0, hle2, hC2⟩ := act_at HC.out k hlt
        subst hA
        have hOA := HOK.out (l.getD k act0) (by rw [List.getD_eq_getElem?_getD, List.getElem?_eq_getElem (by rw [← HN.out]; exact hlt)]; exact List.getElem_mem _)
        obtain ⟨a, ha⟩ : ∃ a, a = l.getD k act0 := ⟨_, rfl⟩
        rw [← ha] at hc0 hc1 hc2 hle0 hC0 hle2 hC2 hOA
        have HAK := Aside0.mk (show ∀ w', Below W.heap.size W w' → w'.cell? (ad.add (k * 3)) = some (.slice A0 a.1.length c0) ∧ w'.cell? ⟨(ad.add (k * 3)).block, (ad.add (k * 3)).off + 1, none⟩ = some (.int .i64 a.2.1) ∧ w'.cell? ⟨(ad.add (k * 3)).block, (ad.add (k * 3)).off + 2, none⟩ = some (.slice A2 a.2.2.length c2) ∧ Kd.C putK w' A0 a.1.length a.1 ∧ Kd.C Kd.bool w' A2 a.2.2.length a.2.2 from fun w' hb => ⟨cell_on hc0 hb, cell_on hc1 hb, cell_on hc2 hb, Kd.C_below hC0 hb, Kd.C_below hC2 hb⟩)
        obtain ⟨lp, arm, kp⟩ := a
        dsimp only at hc0 hc1 hc2 hle0 hC0 hle2 hC2 HAK
        have HOA := Aside0.mk hOA
        clear hOA ha hc0 hc1 hc2 hC0 hC2
        obtain ⟨lq, hlq⟩ : ∃ lq, lq = lp.take 60 := ⟨_, rfl⟩
        have HKW := Aside0.mk (show ∀ w', Below W.heap.size W w' → Kd.C Kd.bool w' A2 kp.length kp from fun w' hb => (HAK.out w' hb).2.2.2.2)
        have HLP := Aside0.mk (show ∀ p ∈ lq, 0 ≤ p.2 ∧ p.2 < 256 from fun p hp => by rw [hlq] at hp; have := HOA.out.puts p (List.mem_of_mem_take hp); exact ⟨this.2.1, this.2.2⟩)
        obtain ⟨nx, hnx⟩ : ∃ nx, nx = afterS st lq := ⟨_, rfl⟩
        have hN8 : St nx := by rw [hnx]; exact st_after HFk.out.2.1 HLP.out
        obtain ⟨n0, n1, n2, n3, n4, n5, n6, n7, hnxl⟩ := eight hN8.1
        have HNG := Aside0.mk (show (nums .u8 nx).toArray = #[.int .u8 n0, .int .u8 n1, .int .u8 n2, .int .u8 n3, .int .u8 n4, .int .u8 n5, .int .u8 n6, .int .u8 n7] by rw [hnxl]; rfl)
        have HN8 := Aside0.mk hN8
        obtain ⟨d1, d2, s, s', e, o1, o2, o3, o4, o5, o6, o7, o8, o9, o10⟩ := wh_commit (k := k) HFk.out.1 (by omega) HFk.out.2.2.2 HFk.out.2.1 (lq := lq) (by rw [hlq, List.length_take]; omega) HLP.out arm kp
        rw [← hnx] at o10
        have HO1 := Aside0.mk o1
        have HO2 := Aside0.mk (And.intro o2 o3)
        have HO6 := Aside0.mk o7
        have HO7 := Aside0.mk o6
        have HE := Aside0.mk o8
        have HNX := Aside0.mk o10
        have HLQ := Aside0.mk hlq
        have HAF := Aside0.mk hnx
        have HCN := Aside0.mk (show d.cnt ≤ 448 * k ∧ d1.cnt ≤ d.cnt + 64 ∧ d2.cnt ≤ d.cnt + 192 from ⟨HFk.out.2.2.1, o4, o9⟩)
        clear o1 o2 o3 o4 o5 o6 o7 o8 o9 o10 hlq hnx hN8 hnxl
        go_upto_region 7 with (go_at_call 17; refine (open_c W.heap.size g d W wr HDk.out HBk.out (Nat.le_refl _) (by have := HCN.out.1; omega)).mono ?_; rintro e w6 ⟨v6, rfl, h1, h2, h3, _, h5⟩; rw [HO1.out] at h1 h5 ⊢; obtain ⟨gw, rfl, hg, hw⟩ := h5 rfl; have HD6 := Aside0.mk h1; have HB6 := Aside0.mk h2; have HW6 := Aside0.mk hw; have HG6 := Aside0.mk (show W.heap.size ≤ gw from Nat.le_trans HBk.out.size hg); have HS6 := Aside0.mk (h3.2 _ _ _ _ HSk.out (by decide) (by decide)); clear h1 h2 h3 h5 hg hw)
        have ca0 := (blk_cell HS6.out 0).trans (rfl : _ = some (Value.int .u8 a0))
        have ca1 := (blk_cell HS6.out 1).trans (rfl : _ = some (Value.int .u8 a1))
        have ca2 := (blk_cell HS6.out 2).trans (rfl : _ = some (Value.int .u8 a2))
        have ca3 := (blk_cell HS6.out 3).trans (rfl : _ = some (Value.int .u8 a3))
        have ca4 := (blk_cell HS6.out 4).trans (rfl : _ = some (Value.int .u8 a4))
        have ca5 := (blk_cell HS6.out 5).trans (rfl : _ = some (Value.int .u8 a5))
        have ca6 := (blk_cell HS6.out 6).trans (rfl : _ = some (Value.int .u8 a6))
        have ca7 := (blk_cell HS6.out 7).trans (rfl : _ = some (Value.int .u8 a7))
        have HIS := Aside0.mk (show Calls Try.prog 18 #[.agg #[.int .u8 a0, .int .u8 a1, .int .u8 a2, .int .u8 a3, .int .u8 a4, .int .u8 a5, .int .u8 a6, .int .u8 a7], .pointer (some ⟨gw, 0, none⟩)] w6 _ from by
          have h := is_calls W.heap.size gw g s d1 st st HFk.out.2.1 HFk.out.2.1 W w6 HW6.out HD6.out HB6.out (Nat.le_refl _) (by have := HCN.out; omega) HO7.out
          rw [HAG.out] at h
          exact h)
        go_upto_region 9 with (go_at_call 18; refine HIS.out.mono ?_; rintro e w7 ⟨r7, rfl, h1, h2, h3, h4, h5, h6⟩; obtain rfl := h2 rfl; have HD7 := Aside0.mk h3; have HW7 := Aside0.mk h4; have HB7 := Aside0.mk h5; have HS7 := Aside0.mk (h6.2 _ _ _ _ HS6.out (by decide) (by decide)); clear h1 h2 h3 h4 h5 h6)
        clear ca0 ca1 ca2 ca3 ca4 ca5 ca6 ca7
        obtain ⟨hc0, hc1, hc2, hC0, hC2⟩ := HAK.out w7 HB7.out
        have HC0 := Aside0.mk hC0
        clear hC0 hC2
        go_upto_region 10 with fail
        obtain ⟨gb, hgb⟩ : ∃ gb, gb = w7.heap.size := ⟨_, rfl⟩
        have HGB := Aside0.mk hgb
        have HGBS := Aside0.mk (show gs ≠ gb by have := blk_lt HS7.out; omega)
        by_cases h60 : 60 < lp.length
        · skip
          have f4 : decide ((60 : Int) < lp.length) = true := decide_eq_true (by omega)
          have h60c : 60 ≤ c0 := by omega
          obtain ⟨m, hm⟩ : ∃ m, m = lp.length := ⟨_, rfl⟩
          rw [← hm] at f4 HC0 hc0 h60 hle0 HAK ⊢
          have HMM := Aside0.mk hm
          clear hm
          obtain ⟨w8, hw8⟩ : ∃ w8, w8 = w7.alloc (.cells #[.slice A0 m c0, .int .i64 arm, .slice A2 kp.length c2] 46) := ⟨_, rfl⟩
          have HB8 := Aside0.mk (show Below w7.heap.size w7 w8 by rw [hw8]; exact below_alloc (Below.refl _ _) _)
          have HQ8 := Aside0.mk (show w8.heap[gb]? = some (.cells #[.slice A0 m c0, .int .i64 arm, .slice A2 kp.length c2] 46 (0, 0)) by rw [hw8, hgb]; exact blk_new w7 _)
          rw [← hw8, ← hgb]
          clear hw8 hgb
          have b0 : w8.cell? ⟨gb, 0, none⟩ = some (.slice A0 m c0) := (blk_cell HQ8.out 0).trans rfl
          have b0f := blk_frozen HQ8.out 0
          go_upto_region 12 with fail
          obtain ⟨w9, hw9⟩ : ∃ w9, w9 = w8.setCell ⟨gb, 0, none⟩ (.slice A0 60 c0) := ⟨_, rfl⟩
          have hb9 : Below w7.heap.size w7 w9 := by rw [hw9]; exact HB8.out.setCell (Nat.le_of_eq HGB.out.symm) _
          have q9 : w9.heap[gb]? = some (.cells #[.slice A0 60 c0, .int .i64 arm, .slice A2 kp.length c2] 46 (0, 0)) := by
            rw [hw9]
            have := blk_set HQ8.out 0 (Value.slice A0 60 c0)
            simpa using this
          rw [← hw9]
          have HLW := Aside0.mk (show ∀ w', Below W.heap.size W w' → Kd.C putK w' A0 60 lq from fun w' hb => by rw [HLQ.out]; exact takeC (HAK.out w' hb).2.2.2.1 (by omega))
          clear hw9 h60 f4 b0 b0f HAK HQ8 HMM h60c hle0
          have HPO := Aside0.mk (show ∀ p ∈ pagesW lq, thereB 72 p.f0 = true ∧ p.f1.length = 512 ∧ BytesOk p.f1 from pagesW_ok HLP.out)
          have HPN := Aside0.mk (show (pagesW lq).length ≤ 100000 by unfold pagesW; rw [List.length_map, List.length_take]; omega)
          have HQ9 := Aside0.mk q9
          have HS9 := Aside0.mk (blk_below HS7.out hb9)
          have HD9 := Aside0.mk (HD7.out.below hb9)
          have HB9 := Aside0.mk (HB7.out.trans (hb9.mono HB7.out.size))
          have HW9 := Aside0.mk (HW7.out.below hb9)
          have b1 : w9.cell? ⟨gb, 1, none⟩ = some (.int .i64 arm) := (blk_cell q9 1).trans rfl
          clear hb9 q9 HB8
          go_upto_region 13 with (go_at_call 19; refine (arm_calls W.heap.size g d1 arm HOA.out.arm.2 W w9 HD9.out HB9.out).mono ?_; rintro e w10 ⟨rfl, h1, h2, h3⟩; have HD10 := Aside0.mk h1; have HB10 := Aside0.mk h2; have HW10 := Aside0.mk (HW9.out.keep h3); have HQ10 := Aside0.mk (h3.2 _ _ _ _ HQ9.out (by decide) (by decide)); have HS10 := Aside0.mk (h3.2 _ _ _ _ HS9.out (by decide) (by decide)); clear h1 h2 h3)
          clear b1
          have HAFT := Aside0.mk (show ∀ w', Below W.heap.size W w' → Calls Try.prog 22 #[.agg #[.int .u8 a0, .int .u8 a1, .int .u8 a2, .int .u8 a3, .int .u8 a4, .int .u8 a5, .int .u8 a6, .int .u8 a7], .slice A0 60 c0] w' fun e w'' => e = .returned (.agg #[.int .u8 n0, .int .u8 n1, .int .u8 n2, .int .u8 n3, .int .u8 n4, .int .u8 n5, .int .u8 n6, .int .u8 n7]) ∧ Below w'.heap.size w' w'' from fun w' hb => by
            have h := after_calls w' A0 60 c0 lq st (HLW.out w' hb) HFk.out.2.1.1
            rw [HAG.out, ← HAF.out, HNG.out] at h
            exact h)
          have hdr : Below w10.heap.size w10 w10.drew := below_drew (Below.refl _ _)
          refine start_ (n := 12) (S := fun w' => Below W.heap.size W w' ∧ KeepW w10 w') (ds := []) #[false, false, false, false, false, false, false, false, false, false, false, false] (by kernel_rfl) rfl rfl ⟨HB10.out.trans (hdr.mono HB10.out.size), KeepW.of_below hdr⟩ (fun hHeld => ?_)
          have HDd := Aside0.mk (And.intro (HD10.out.below hdr) (HW10.out.below hdr))
          generalize w10.drew = wD at hdr hHeld HDd ⊢
          refine pure_ (i := 0) (N := some 61) (v := ?_) (a' := ?_) #[true, false, false, false, false, false, false, false, false, false, false, false] rfl rfl (by kernel_rfl) (fun _ _ _ h => h) (Or.inl ⟨by rfl, ?_⟩) ?_ ?_
          rotate_left
          · intro w'
            go_simp
            with_reducible rfl
          rotate_left
          · simp only [Act.put, List.setIfInBounds_toArray, List.set_cons_zero, List.set_cons_succ]
            rfl
          refine pure_ (i := 1) (N := some 62) (v := ?_) (a' := ?_) #[true, true, false, false, false, false, false, false, false, false, false, false] rfl rfl (by kernel_rfl) (fun _ _ _ h => h) (Or.inl ⟨by rfl, ?_⟩) ?_ ?_
          rotate_left
          · intro w'
            go_simp
            with_reducible rfl
          rotate_left
          · simp only [Act.put, List.setIfInBounds_toArray, List.set_cons_zero, List.set_cons_succ]
            rfl
          refine take_ (i := 2) (N := some 63) (v := ?_) (a' := ?_) #[true, true, true, false, false, false, false, false, false, false, false, false] rfl rfl (by kernel_rfl) (fun _ _ _ h => h) (Or.inl ⟨by rfl, ?_⟩) hHeld ?_ ?_
          rotate_left
          · intro w' s0
            have s1 := (blk_cell (s0.2.2 _ _ _ _ HQ10.out (by decide) (by decide) (by decide)) 0).trans (rfl : _ = some (Value.slice A0 60 c0))
            go_simp
            with_reducible rfl
          rotate_left
          · simp only [Act.put, List.setIfInBounds_toArray, List.set_cons_zero, List.set_cons_succ]
            rfl
          refine take_ (i := 5) (N := some 66) (v := .agg #[.int .u8 a0, .int .u8 a1, .int .u8 a2, .int .u8 a3, .int .u8 a4, .int .u8 a5, .int .u8 a6, .int .u8 a7]) (a' := ?_) #[true, true, true, false, false, true, false, false, false, false, false, false] rfl rfl (by kernel_rfl) (fun _ _ _ h => h) (Or.inl ⟨by rfl, ?_⟩) hHeld ?_ ?_
          · intro w' s0
            have s1 := s0.2.2 _ _ _ _ HS10.out (by decide) (by decide) (by decide)
            have cs0 := (blk_cell s1 0).trans (rfl : _ = some (Value.int .u8 a0))
            have cs1 := (blk_cell s1 1).trans (rfl : _ = some (Value.int .u8 a1))
            have cs2 := (blk_cell s1 2).trans (rfl : _ = some (Value.int .u8 a2))
            have cs3 := (blk_cell s1 3).trans (rfl : _ = some (Value.int .u8 a3))
            have cs4 := (blk_cell s1 4).trans (rfl : _ = some (Value.int .u8 a4))
            have cs5 := (blk_cell s1 5).trans (rfl : _ = some (Value.int .u8 a5))
            have cs6 := (blk_cell s1 6).trans (rfl : _ = some (Value.int .u8 a6))
            have cs7 := (blk_cell s1 7).trans (rfl : _ = some (Value.int .u8 a7))
            first | (go_simp; done) | (go_simp; rfl)
          rotate_left
          · simp only [Act.put, List.setIfInBounds_toArray, List.set_cons_zero, List.set_cons_succ]
            rfl
          refine pure_ (i := 6) (N := some 67) (v := ?_) (a' := ?_) #[true, true, true, false, false, true, true, false, false, false, false, false] rfl rfl (by kernel_rfl) (fun _ _ _ h => h) (Or.inl ⟨by rfl, ?_⟩) ?_ ?_
          rotate_left
          · intro w'
            go_simp
            with_reducible rfl
          rotate_left
          · simp only [Act.put, List.setIfInBounds_toArray, List.set_cons_zero, List.set_cons_succ]
            rfl
          refine take_ (i := 7) (N := some 68) (v := ?_) (a' := ?_) #[true, true, true, false, false, true, true, true, false, false, false, false] rfl rfl (by kernel_rfl) (fun _ _ _ h => h) (Or.inl ⟨by rfl, ?_⟩) hHeld ?_ ?_
          rotate_left
          · intro w' s0
            have s1 := (blk_cell (s0.2.2 _ _ _ _ HQ10.out (by decide) (by decide) (by decide)) 0).trans (rfl : _ = some (Value.slice A0 60 c0))
            go_simp
            with_reducible rfl
          rotate_left
          · simp only [Act.put, List.setIfInBounds_toArray, List.set_cons_zero, List.set_cons_succ]
            rfl
          refine lattice3 (l0 := #[true, true, true, false, false, true, true, true, false, false, false, false]) [3, 4, 8, 9] [[false, false, false, false], [true, false, false, false], [true, true, false, false], [true, true, true, false], [false, false, false, true], [true, false, false, true], [true, true, false, true], [true, true, true, true]] [64, 65, 69, 12] (by kernel_rfl) (by kernel_rfl) (by decide) (by kernel_rfl) (by kernel_rfl) (by kernel_rfl) (fun d xs w' => ∃ x0 x1 x2 x3, xs = [x0, x1, x2, x3] ∧ (d.getD 1 true = false → IsD W.heap.size w' g (armD d1 arm) ∧ IsWl w' gw g s) ∧ (d.getD 0 false = true → ∃ Ap cp, x0 = .slice Ap (pagesW lq).length cp ∧ PgL w' Ap (pagesW lq).length (pagesW lq)) ∧ (d.getD 1 false = true → x1 = .int .i64 e ∧ IsD W.heap.size w' g d2) ∧ (d.getD 2 false = true → x2 = .agg #[.int .u8 n0, .int .u8 n1, .int .u8 n2, .int .u8 n3, .int .u8 n4, .int .u8 n5, .int .u8 n6, .int .u8 n7]) ∧ (d.getD 3 false = true → ∃ q, x3 = .pointer (some ⟨q, 0, none⟩) ∧ w'.heap[q]? = some (.cells #[.int .u8 0, .int .u8 0, .int .u8 0, .int .u8 0, .int .u8 0, .int .u8 0, .int .u8 0, .int .u8 0] 38 (0, 0)) ∧ w10.heap.size ≤ q)) 2 rfl (by kernel_rfl) hHeld ?hF ?hstep ?hfin
          case hF =>
            intro xs hx
            match xs, hx with
            | [x0, x1, x2, x3], _ => exact ⟨x0, x1, x2, x3, rfl, fun _ => HDd.out, fun h => absurd h (by decide), fun h => absurd h (by decide), fun h => absurd h (by decide), fun h => absurd h (by decide)⟩
          case hstep =>
            intro j hj
            have hj : j < 4 := hj
            rcases (by omega : j = 0 ∨ j = 1 ∨ j = 2 ∨ j = 3) with rfl | rfl | rfl | rfl
            · intro d hd hjn hn xs wl hx hSl ⟨x0, x1, x2, x3, hxs, fa, fp, fc, ft, fq⟩ a' ha o ho K hK
              subst hxs
              obtain rfl := Option.some.inj (ho.symm.trans (rfl : _ = some _))
              simp only [putVs, Act.put, List.setIfInBounds_toArray, List.set_cons_zero, List.set_cons_succ] at ha
              subst ha
              refine goes_ Try.func21 (by kernel_rfl) rfl #[.slice A0 60 c0, .int .i64 8] (by rfl) rfl rfl (by (try simp only [List.map_toArray, List.map_cons, List.map_nil]); first | done | rfl) ?_
              refine (pages_calls wl A0 60 c0 lq (HLW.out wl hSl.1)).mono ?_
              rintro e' w11 ⟨v11, rfl, h1, hb1⟩
              obtain ⟨Ap, cp, rfl, _, hpl⟩ := pgL_of_R h1
              have hk1 := KeepW.of_below hb1
              refine ⟨_, rfl, ?_⟩
              exact hK.out _ w11 ⟨hSl.1.trans (hb1.mono hSl.1.size), hSl.2.trans hk1⟩ ⟨_, _, _, _, rfl, fun n1 => ⟨(fa ((on_net d 0 1 (by decide)).symm.trans n1)).1.below hb1, (fa ((on_net d 0 1 (by decide)).symm.trans n1)).2.below hb1⟩, fun h0 => ⟨Ap, cp, rfl, hpl⟩, fun h1 => absurd ((on_ne d 0 1 (by decide)).symm.trans h1) (fun h2 => bit_abs (before_of (j := 0) (k := 1) (by kernel_rfl) hd hjn hn) h2), fun h2 => absurd ((on_ne d 0 2 (by decide)).symm.trans h2) (fun h2 => bit_abs (before_of (j := 0) (k := 2) (by kernel_rfl) hd hjn hn) h2), fun h3 => (by obtain ⟨q, e6, h6, h7⟩ := (fq ((on_ne d 0 3 (by decide)).symm.trans h3)); exact ⟨q, e6, hk1.2 _ _ _ _ h6 (by decide) (by decide) (by decide), h7⟩)⟩
            · intro d hd hjn hn xs wl hx hSl ⟨x0, x1, x2, x3, hxs, fa, fp, fc, ft, fq⟩ a' ha o ho K hK
              subst hxs
              obtain rfl := Option.some.inj (ho.symm.trans (rfl : _ = some _))
              simp only [putVs, Act.put, List.setIfInBounds_toArray, List.set_cons_zero, List.set_cons_succ] at ha
              subst ha
              have ga := fa hjn
              have gp := fp (after_of (j := 1) (k := 0) (by kernel_rfl) hd hjn hn)
              obtain ⟨Ap, cp, rfl, hpl⟩ := gp
              refine goes_ Try.func20 (by kernel_rfl) rfl #[.pointer (some ⟨gw, 0, none⟩), .slice Ap (pagesW lq).length cp] (by rfl) rfl rfl (by (try simp only [List.map_toArray, List.map_cons, List.map_nil]); first | done | rfl) ?_
              refine (commit_c W.heap.size gw g s (armD d1 arm) W wl Ap (pagesW lq).length cp (pagesW lq) hpl ga.2 ga.1 hSl.1 (Nat.le_refl _) HG6.out HO2.out.1 HO2.out.2 (fun p hp => (HPO.out p hp).2.2) (by have : (armD d1 arm).cnt = d1.cnt := rfl; have := HCN.out; omega) HPN.out).mono ?_
              rw [HO6.out]
              rintro e' w11 ⟨rfl, z1, z2, z3, hk1⟩
              refine ⟨_, rfl, ?_⟩
              exact hK.out _ w11 ⟨z3, hSl.2.trans hk1⟩ ⟨_, _, _, _, rfl, fun n1 => absurd n1 (by rw [on_att]; decide), fun h0 => (by obtain ⟨Ap', cp', e6, h6⟩ := (fp (after_of (j := 1) (k := 0) (by kernel_rfl) hd hjn hn)); exact ⟨Ap', cp', e6, h6.keep hk1⟩), fun h1 => ⟨rfl, z1⟩, fun h2 => absurd ((on_ne d 1 2 (by decide)).symm.trans h2) (fun h2 => bit_abs (before_of (j := 1) (k := 2) (by kernel_rfl) hd hjn hn) h2), fun h3 => (by obtain ⟨q, e6, h6, h7⟩ := (fq ((on_ne d 1 3 (by decide)).symm.trans h3)); exact ⟨q, e6, hk1.2 _ _ _ _ h6 (by decide) (by decide) (by decide), h7⟩)⟩
            · intro d hd hjn hn xs wl hx hSl ⟨x0, x1, x2, x3, hxs, fa, fp, fc, ft, fq⟩ a' ha o ho K hK
              subst hxs
              obtain rfl := Option.some.inj (ho.symm.trans (rfl : _ = some _))
              simp only [putVs, Act.put, List.setIfInBounds_toArray, List.set_cons_zero, List.set_cons_succ] at ha
              subst ha
              have gp := fp (after_of (j := 2) (k := 0) (by kernel_rfl) hd hjn hn)
              have gc := fc (after_of (j := 2) (k := 1) (by kernel_rfl) hd hjn hn)
              refine goes_ Try.func22 (by kernel_rfl) rfl #[.agg #[.int .u8 a0, .int .u8 a1, .int .u8 a2, .int .u8 a3, .int .u8 a4, .int .u8 a5, .int .u8 a6, .int .u8 a7], .slice A0 60 c0] (by rfl) rfl rfl (by (try simp only [List.map_toArray, List.map_cons, List.map_nil]); first | done | rfl) ?_
              refine (HAFT.out wl hSl.1).mono ?_
              rintro e' w11 ⟨rfl, hb1⟩
              have hk1 := KeepW.of_below hb1
              refine ⟨_, rfl, ?_⟩
              exact hK.out _ w11 ⟨hSl.1.trans (hb1.mono hSl.1.size), hSl.2.trans hk1⟩ ⟨_, _, _, _, rfl, fun n1 => (bit_abs ((on_net d 2 1 (by decide)).symm.trans n1) (after_of (j := 2) (k := 1) (by kernel_rfl) hd hjn hn)).elim, fun h0 => (by obtain ⟨Ap', cp', e6, h6⟩ := (fp (after_of (j := 2) (k := 0) (by kernel_rfl) hd hjn hn)); exact ⟨Ap', cp', e6, h6.keep hk1⟩), fun h1 => (by obtain ⟨e6, h6⟩ := (fc (after_of (j := 2) (k := 1) (by kernel_rfl) hd hjn hn)); exact ⟨e6, h6.below hb1⟩), fun h2 => rfl, fun h3 => (by obtain ⟨q, e6, h6, h7⟩ := (fq ((on_ne d 2 3 (by decide)).symm.trans h3)); exact ⟨q, e6, hk1.2 _ _ _ _ h6 (by decide) (by decide) (by decide), h7⟩)⟩
            · intro d hd hjn hn xs wl hx hSl ⟨x0, x1, x2, x3, hxs, fa, fp, fc, ft, fq⟩ a' ha o ho K hK
              subst hxs
              obtain rfl := Option.some.inj (ho.symm.trans (rfl : _ = some _))
              simp only [putVs, Act.put, List.setIfInBounds_toArray, List.set_cons_zero, List.set_cons_succ] at ha
              subst ha
              have hb1 : Below wl.heap.size wl (wl.alloc (.cells #[.int .u8 0, .int .u8 0, .int .u8 0, .int .u8 0, .int .u8 0, .int .u8 0, .int .u8 0, .int .u8 0] 38)) := below_alloc (Below.refl _ _) _
              have hk1 := KeepW.of_below hb1
              refine value_ rfl rfl (v := .pointer (some ⟨wl.heap.size, 0, none⟩)) (w1 := wl.alloc (.cells #[.int .u8 0, .int .u8 0, .int .u8 0, .int .u8 0, .int .u8 0, .int .u8 0, .int .u8 0, .int .u8 0] 38)) (by first | (go_simp; done) | (go_simp; rfl)) ?_
              exact hK.out _ _ ⟨hSl.1.trans (hb1.mono hSl.1.size), hSl.2.trans hk1⟩ ⟨_, _, _, _, rfl, fun n1 => ⟨(fa ((on_net d 3 1 (by decide)).symm.trans n1)).1.below hb1, (fa ((on_net d 3 1 (by decide)).symm.trans n1)).2.below hb1⟩, fun h0 => (by obtain ⟨Ap', cp', e6, h6⟩ := (fp ((on_ne d 3 0 (by decide)).symm.trans h0)); exact ⟨Ap', cp', e6, h6.keep hk1⟩), fun h1 => (by obtain ⟨e6, h6⟩ := (fc ((on_ne d 3 1 (by decide)).symm.trans h1)); exact ⟨e6, h6.below hb1⟩), fun h2 => (ft ((on_ne d 3 2 (by decide)).symm.trans h2)), fun h3 => ⟨_, rfl, blk_new wl _, hSl.2.1⟩⟩
          case hfin =>
            intro xs wl hx hSl ⟨x0, x1, x2, x3, hxs, fa, fp, fc, ft, fq⟩ a' ha
            subst hxs
            simp only [putVs, Act.put, List.setIfInBounds_toArray, List.set_cons_zero, List.set_cons_succ] at ha
            subst ha
            have gp := fp (by decide)
            have gc := fc (by decide)
            have gt := ft (by decide)
            have gq := fq (by decide)
            clear fa fp fc ft fq
            obtain ⟨Ap, cp, rfl, hpl⟩ := gp
            obtain ⟨rfl, hcd⟩ := gc
            subst gt
            obtain ⟨q, rfl, hq, hwq⟩ := gq
            have hHeld := hSl
            clear hpl
            refine pure_ (i := 10) (N := some 11) (v := ?_) (a' := ?_) #[true, true, true, true, true, true, true, true, true, true, true, false] rfl rfl (by kernel_rfl) (fun _ _ _ h => h) (Or.inl ⟨by rfl, ?_⟩) ?_ ?_
            rotate_left
            · intro w'
              go_simp
              with_reducible rfl
            rotate_left
            · simp only [Act.put, List.setIfInBounds_toArray, List.set_cons_zero, List.set_cons_succ]
              rfl
            obtain ⟨w12, hw12⟩ : ∃ w12, w12 = wl.setRow q ((#[.int .u8 0, .int .u8 0, .int .u8 0, .int .u8 0, .int .u8 0, .int .u8 0, .int .u8 0, .int .u8 0] : Array Value).toList.take 0 ++ [Value.int .u8 n0, Value.int .u8 n1, Value.int .u8 n2, Value.int .u8 n3, Value.int .u8 n4, Value.int .u8 n5, Value.int .u8 n6, Value.int .u8 n7] ++ (#[.int .u8 0, .int .u8 0, .int .u8 0, .int .u8 0, .int .u8 0, .int .u8 0, .int .u8 0, .int .u8 0] : Array Value).toList.drop (0 + ([Value.int .u8 n0, Value.int .u8 n1, Value.int .u8 n2, Value.int .u8 n3, Value.int .u8 n4, Value.int .u8 n5, Value.int .u8 n6, Value.int .u8 n7] : List Value).length)).toArray := ⟨_, rfl⟩
            have hgr : wl.grownBy w12 (some q) := by rw [hw12]; exact setRow_grown wl q _
            have hq12 : w12.heap[q]? = some (.cells #[.int .u8 n0, .int .u8 n1, .int .u8 n2, .int .u8 n3, .int .u8 n4, .int .u8 n5, .int .u8 n6, .int .u8 n7] 38 (0, 0)) := by rw [hw12]; exact setRow_same hq
            have hs12 : Below W.heap.size W w12 ∧ KeepW w10 w12 := ⟨hSl.1.grown hgr hSl.1.size (fun i hi => by cases hi; exact Nat.le_trans HB10.out.size hwq), Nat.le_trans hSl.2.1 hgr.size, fun i cs t fr hi h1 h2 h3 => by have h4 := blk_lt hi; rw [hw12]; exact setRow_block (hSl.2.2 i cs t fr hi h1 h2 h3) (by omega)⟩
            refine one_ (i := 11) (N := none) #[true, true, true, true, true, true, true, true, true, true, true, true] rfl rfl (by kernel_rfl) (by decide) (fun K hK => ?_)
            refine skip_ rfl rfl (w1 := w12) (by rw [hw12]; exact exec_store (t := 38) (u := 38) (x := .tmp 12) (v := .tmp 69) (cs := [Value.int .u8 n0, Value.int .u8 n1, Value.int .u8 n2, Value.int .u8 n3, Value.int .u8 n4, Value.int .u8 n5, Value.int .u8 n6, Value.int .u8 n7]) rfl rfl rfl size38 hq (Nat.le_of_eq rfl) (by intro v hv; simp at hv; rcases hv with rfl | rfl | rfl | rfl | rfl | rfl | rfl | rfl <;> rfl)) ?_
            refine hK.out _ _ hs12 (fun hHeld => ?_)
            clear hK K 
            refine done_ (by kernel_rfl) ?_
            have HD12 := Aside0.mk (hcd.grown hgr (fun i hi => by cases hi; exact ⟨_, _, hq, by decide, by decide⟩))
            have HB12 := Aside0.mk hs12.1
            have HN12 := Aside0.mk hq12
            have HS12 := Aside0.mk (hs12.2.2 _ _ _ _ HS10.out (by decide) (by decide) (by decide))
            have HQ12 := Aside0.mk (hs12.2.2 _ _ _ _ HQ10.out (by decide) (by decide) (by decide))
            obtain ⟨d3, X, o1, o2, o3, o4, o5⟩ := HNX.out (sec_of HD12.out) HD12.out.secs
            have HO1' := Aside0.mk o1
            have HX := Aside0.mk (And.intro o2 (And.intro o3 (And.intro o4 o5)))
            have HX8 := Aside0.mk (show St X by rcases o3 with h | ⟨h, _⟩ <;> rw [h]; exact HN8.out; exact HFk.out.2.1)
            have HQNE := Aside0.mk (show gs ≠ q by have := blk_lt HS10.out; omega)
            have HQGE := Aside0.mk (show W.heap.size ≤ q from Nat.le_trans HB10.out.size hwq)
            have b5 := (blk_cell HQ12.out 2).trans (rfl : _ = some (Value.slice A2 kp.length c2))
            clear o1 o2 o3 o4 o5 hcd hgr hq hq12 hs12 hw12 hSl hHeld HDd hwq
            rcases HE.out with he | he
            · subst he
              go_upto_region 16 with fail
              go_upto_region 17 with (first
                | ((with_reducible refine gate_dst (N := 77) rfl ?_); refine Kd.R_lit Kd.bool w12.heap.size 4 ?hg (N := 77) ?hd (xs := ([] : List Bool)) (inner := []) (ok := fun _ => True) (okp := fun _ => True) ?hr ?hp (fun _ hk => hk) trivial (Below.refl _ _) (Nat.le_refl _) (by simp) ?_; (case hd => rfl); (case hg => rfl); (case hr => first | (go_simp; done) | (go_simp; rfl)); (case hp => exact (Reps.none _ _)); intro v13 w13 ho4 hb hg_ hnew_; clear hg_ hnew_; have HO13 := Aside0.mk ho4; have HB13 := Aside0.mk hb; have b6 := (blk_cell (blk_below HQ12.out hb) 2).trans (rfl : _ = some (Value.slice A2 kp.length c2)); clear hb ho4)
                | ((with_reducible refine gate_dst (N := 80) rfl ?_); at_builtin; refine Kd.R_append_rows Kd.bool (w0 := w12) w12.heap.size rfl (.tmp 77) (.tmp 79) 44 4 (.bool false) 1 rfl Try.underlying44 INF.out rfl (by decide) (by omega) v13 [] kp _ _ _ (fun _ => True) (fun _ => False) rfl rfl ?aO ?aR (fun _ _ h => h) (fun _ h => h.elim) ?aF ?aB ?aS ?aL ?_; (case aR => exact Kd.C_below (HKW.out w12 HB12.out) HB13.out); (case aB => exact HB13.out); (case aF => exact (fun _ _ => trivial)); (case aO => exact HO13.out); (case aS => exact HB13.out.size); (case aL => have h9 : kp.length ≤ R := HOA.out.keep; simp; omega); intro v14 w14 ho hb hg hat; obtain ⟨A14, c14, rfl⟩ := Kd.R_slice ho; rw [List.nil_append] at ho; have HO14 := Aside0.mk ho; have HB14 := Aside0.mk hb; clear ho hb hg hat)
                | (go_at_call 23; refine (crash_calls W.heap.size g d2 W w14 (HD12.out.below HB14.out) (HB12.out.trans (HB14.out.mono HB12.out.size)) (Nat.le_refl _) (by have := HCN.out; omega) A14 c14 kp (fun W' h1 _ => lies_bool HO14.out W' h1)).mono ?_; rw [HO1'.out]; rintro e w15 ⟨rfl, h1, h2, h3⟩; have HD15 := Aside0.mk h1; have HB15 := Aside0.mk h2; have HS15 := Aside0.mk (h3.2 _ _ _ _ (blk_below HS12.out HB14.out) (by decide) (by decide)); have HN15 := Aside0.mk (h3.2 _ _ _ _ (blk_below HN12.out HB14.out) (by decide) (by decide)); clear h1 h2 h3))
              clear b5
              go_wp2_with fail
              go_loopw [13] (fun x wr => ∃ (j : Nat) (d' : D), j ≤ tn ∧ j ≤ 3 ∧ x = .int .i64 j ∧ Aside0 (IsD W.heap.size wr g d') ∧ Aside0 (Below W.heap.size W wr) ∧ Aside0 (wr.heap[gs]? = some (.cells #[.int .u8 a0, .int .u8 a1, .int .u8 a2, .int .u8 a3, .int .u8 a4, .int .u8 a5, .int .u8 a6, .int .u8 a7] 38 (0, 0))) ∧ Aside0 (wr.heap[q]? = some (.cells #[.int .u8 n0, .int .u8 n1, .int .u8 n2, .int .u8 n3, .int .u8 n4, .int .u8 n5, .int .u8 n6, .int .u8 n7] 38 (0, 0))) ∧ Aside0 (Wh d' X ∧ d'.cnt ≤ d.cnt + 192 + 64 * j ∧ logF d'.fast = logF d3.fast)) (fun x _ => 3 - (intOf x).toNat)
              case atStart => exact ⟨0, d3, Nat.zero_le _, Nat.zero_le _, rfl, HD15, HB15, HS15, HN15, ⟨HX.out.1, HX.out.2.2.1, rfl⟩⟩
              case round =>
                obtain ⟨j, d', hj, hj3, rfl, HDj, HBj, HSj, HNj, HFj⟩ := hrel
                by_cases hjt : j < tn
                · have g1 : decide ((j : Int) < tn) = true := decide_eq_true (by omega)
                  by_cases hjt3 : j < 3
                  · have g2 : decide ((j : Int) < 3) = true := decide_eq_true (by omega)
                    obtain ⟨ad2, A3, c3, A4, c4, hA, hc0, hc1, hc2, hle0, hC0, hle2, hC2⟩ := act_at HT.out j hjt
                    subst hA
                    have hOA := HOT.out (t.getD j act0) (by rw [List.getD_eq_getElem?_getD, List.getElem?_eq_getElem (by rw [← HTN.out]; exact hjt)]; exact List.getElem_mem _)
                    obtain ⟨a, ha⟩ : ∃ a, a = t.getD j act0 := ⟨_, rfl⟩
                    rw [← ha] at hc0 hc1 hc2 hle0 hC0 hle2 hC2 hOA
                    have HAK2 := Aside0.mk (show ∀ w', Below W.heap.size W w' → w'.cell? ⟨(ad2.add (j * 3)).block, (ad2.add (j * 3)).off + 1, none⟩ = some (.int .i64 a.2.1) ∧ w'.cell? ⟨(ad2.add (j * 3)).block, (ad2.add (j * 3)).off + 2, none⟩ = some (.slice A4 a.2.2.length c4) from fun w' hb => ⟨cell_on hc1 hb, cell_on hc2 hb⟩)
                    have HKW2 := Aside0.mk (show ∀ w', Below W.heap.size W w' → Kd.C Kd.bool w' A4 a.2.2.length a.2.2 from fun w' hb => Kd.C_below hC2 hb)
                    obtain ⟨lp2, arm2, kp2⟩ := a
                    dsimp only at HAK2 HKW2
                    have HOA2 := Aside0.mk hOA
                    clear hOA ha hc0 hc1 hc2 hC0 hC2 hle0 hle2
                    have r1 := (HAK2.out wr HBj.out).1
                    go_upto_region 21 with (go_at_call 19; refine (arm_calls W.heap.size g d' arm2 HOA2.out.arm.2 W wr HDj.out HBj.out).mono ?_; rintro e w16 ⟨rfl, h1, h2, h3⟩; have HD16 := Aside0.mk h1; have HB16 := Aside0.mk h2; have HS16 := Aside0.mk (h3.2 _ _ _ _ HSj.out (by decide) (by decide)); have HN16 := Aside0.mk (h3.2 _ _ _ _ HNj.out (by decide) (by decide)); clear h1 h2 h3)
                    clear r1
                    have hcn6 : (armD d' arm2).cnt = d'.cnt := rfl
                    go_upto_region 22 with (go_at_call 17; refine (open_c W.heap.size g (armD d' arm2) W w16 HD16.out HB16.out (Nat.le_refl _) (by have := HCN.out.1; have := HFj.out.2.1; omega)).mono ?_; rintro e w17 ⟨v17, rfl, h1, h2, h3, _, _⟩; have HD17 := Aside0.mk h1; have HB17 := Aside0.mk h2; have HS17 := Aside0.mk (h3.2 _ _ _ _ HS16.out (by decide) (by decide)); have HN17 := Aside0.mk (h3.2 _ _ _ _ HN16.out (by decide) (by decide)); clear h1 h2 h3)
                    clear hcn6
                    obtain ⟨d5, d6, t1, t2, t3, t4, t5, t6⟩ := wh_twice HFj.out.1 arm2 kp2 HD17.out.secs (sec_of HD17.out)
                    rw [t1] at HD17
                    have HT3 := Aside0.mk t3
                    have HT4 := Aside0.mk (And.intro t4 (And.intro t5 t6))
                    have hcn5 := HFj.out.2.1
                    have r2 := (HAK2.out w17 HB17.out).2
                    clear t1 t3 t4 t5 t6
                    go_upto_region 19 with (first
                      | ((with_reducible refine gate_dst (N := 102) rfl ?_); refine Kd.R_lit Kd.bool w17.heap.size 4 ?hg (N := 102) ?hd (xs := ([] : List Bool)) (inner := []) (ok := fun _ => True) (okp := fun _ => True) ?hr ?hp (fun _ hk => hk) trivial (Below.refl _ _) (Nat.le_refl _) (by simp) ?_; (case hd => rfl); (case hg => rfl); (case hr => first | (go_simp; done) | (go_simp; rfl)); (case hp => exact (Reps.none _ _)); intro v13 w13 ho4 hb hg_ hnew_; clear hg_ hnew_; have HO13 := Aside0.mk ho4; have HB13 := Aside0.mk hb; have r3 := (HAK2.out w13 (HB17.out.trans (hb.mono HB17.out.size))).2; clear hb ho4)
                      | ((with_reducible refine gate_dst (N := 108) rfl ?_); at_builtin; refine Kd.R_append_rows Kd.bool (w0 := w17) w17.heap.size rfl (.tmp 102) (.tmp 107) 44 4 (.bool false) 1 rfl Try.underlying44 INF.out rfl (by decide) (by omega) v13 [] kp2 _ _ _ (fun _ => True) (fun _ => False) rfl rfl ?aO ?aR (fun _ _ h => h) (fun _ h => h.elim) ?aF ?aB ?aS ?aL ?_; (case aR => exact Kd.C_below (HKW2.out w17 HB17.out) HB13.out); (case aB => exact HB13.out); (case aF => exact (fun _ _ => trivial)); (case aO => exact HO13.out); (case aS => exact HB13.out.size); (case aL => have h9 : kp2.length ≤ R := HOA2.out.keep; simp; omega); intro v14 w14 ho hb hg hat; obtain ⟨A14, c14, rfl⟩ := Kd.R_slice ho; rw [List.nil_append] at ho; have HO14 := Aside0.mk ho; have HB14 := Aside0.mk hb; clear ho hb hg hat)
                      | (go_at_call 23; refine (crash_calls W.heap.size g d5 W w14 (HD17.out.below HB14.out) (HB17.out.trans (HB14.out.mono HB17.out.size)) (Nat.le_refl _) (by have := HCN.out; omega) A14 c14 kp2 (fun W' h1 _ => lies_bool HO14.out W' h1)).mono ?_; rw [HT3.out]; rintro e w15 ⟨rfl, h1, h2, h3⟩; have HD15 := Aside0.mk h1; have HB15 := Aside0.mk h2; have HS15 := Aside0.mk (h3.2 _ _ _ _ (blk_below HS17.out HB14.out) (by decide) (by decide)); have HN15 := Aside0.mk (h3.2 _ _ _ _ (blk_below HN17.out HB14.out) (by decide) (by decide)); clear h1 h2 h3))
                    go_wp2
                    go_roundw
                    case rel => exact ⟨j + 1, d6, by omega, by omega, by go_num, HD15, HB15, HS15, HN15, ⟨HT4.out.1, by have := HT4.out.2.1; omega, HT4.out.2.2.trans HFj.out.2.2⟩⟩
                    case measure => simp [intOf]; omega
                  · obtain rfl : j = 3 := by omega
                    have g2 : decide (((3 : Nat) : Int) < 3) = false := by decide
                    obtain ⟨d7, u1, u2, u3, u4, u5, u6, u7⟩ := wh_open HFj.out.1
                    have HU1 := Aside0.mk u1
                    have HU := Aside0.mk (And.intro u2 (And.intro u3 (And.intro u4 (And.intro u5 (And.intro u6 u7)))))
                    have hcn5 := HFj.out.2.1
                    clear u1 u2 u3 u4 u5 u6 u7
                    go_upto_region 24 with (go_at_call 17; refine (open_c W.heap.size g d' W wr HDj.out HBj.out (Nat.le_refl _) (by have := HCN.out.1; omega)).mono ?_; rintro e w18 ⟨v18, rfl, h1, h2, h3, _, h5⟩; rw [HU1.out] at h1 h5 ⊢; obtain ⟨gv, rfl, hg, hw⟩ := h5 rfl; have HD18 := Aside0.mk h1; have HB18 := Aside0.mk h2; have HW18 := Aside0.mk hw; have HS18 := Aside0.mk (h3.2 _ _ _ _ HSj.out (by decide) (by decide)); have HN18 := Aside0.mk (h3.2 _ _ _ _ HNj.out (by decide) (by decide)); clear h1 h2 h3 h5 hg hw)
                    have HWH := Aside0.mk (wh_open2 HFj.out.1 HU.out.1 HU.out.2.1 HU.out.2.2.1 HU.out.2.2.2.1 (sec_of HD18.out))
                    have hsq : seqTo d7 64 = seqTo d3 64 := HWH.out.2.trans (wh_seq HX.out.1 HFj.out.1 HFj.out.2.2)
                    have HNEW := Aside0.mk (show d7.cnt ≤ 448 * (k + 1) ∧ seqTo d7 64 ≤ ((k + 1 : Nat) : Int) from ⟨by have := HCN.out.1; have := HU.out.2.2.2.2.1; omega, by rw [hsq]; exact HX.out.2.2.2⟩)
                    clear hsq hcn5
                    have HIN := Aside0.mk (show Calls Try.prog 18 #[.agg #[.int .u8 n0, .int .u8 n1, .int .u8 n2, .int .u8 n3, .int .u8 n4, .int .u8 n5, .int .u8 n6, .int .u8 n7], .pointer (some ⟨gv, 0, none⟩)] w18 _ from by
                      have h := is_calls W.heap.size gv g _ d7 nx X HN8.out HX8.out W w18 HW18.out HD18.out HB18.out (Nat.le_refl _) (by have := HNEW.out.1; omega) HU.out.2.2.2.2.2
                      rw [HNG.out] at h
                      exact h)
                    go_upto_region 26 with fail
                    have cn0 := (blk_cell HN18.out 0).trans (rfl : _ = some (Value.int .u8 n0))
                    have cn1 := (blk_cell HN18.out 1).trans (rfl : _ = some (Value.int .u8 n1))
                    have cn2 := (blk_cell HN18.out 2).trans (rfl : _ = some (Value.int .u8 n2))
                    have cn3 := (blk_cell HN18.out 3).trans (rfl : _ = some (Value.int .u8 n3))
                    have cn4 := (blk_cell HN18.out 4).trans (rfl : _ = some (Value.int .u8 n4))
                    have cn5 := (blk_cell HN18.out 5).trans (rfl : _ = some (Value.int .u8 n5))
                    have cn6 := (blk_cell HN18.out 6).trans (rfl : _ = some (Value.int .u8 n6))
                    have cn7 := (blk_cell HN18.out 7).trans (rfl : _ = some (Value.int .u8 n7))
                    by_cases hX : nx = X
                    · go_upto_region 27 with (go_at_call 18; refine HIN.out.mono ?_; rintro e w19 ⟨r9, rfl, h1, h2, h3, h4, h5, h6⟩; obtain rfl := h2 hX; have HD19 := Aside0.mk h3; have HB19 := Aside0.mk h5; have HS19 := Aside0.mk (h6.2 _ _ _ _ HS18.out (by decide) (by decide)); have HN19 := Aside0.mk (h6.2 _ _ _ _ HN18.out (by decide) (by decide)); clear h1 h2 h3 h4 h5 h6)
                      clear cn0 cn1 cn2 cn3 cn4 cn5 cn6 cn7
                      go_upto_region 5 with (first
                        | ((with_reducible refine gate_dst (N := 124) rfl ?_); refine wl_load 38 (.tmp 12) rfl rfl ⟨q, 0, none⟩ [Value.int .u8 n0, Value.int .u8 n1, Value.int .u8 n2, Value.int .u8 n3, Value.int .u8 n4, Value.int .u8 n5, Value.int .u8 n6, Value.int .u8 n7] rfl _ Try.underlying38 rfl size38 (cells_of HN19.out) ?_)
                        | ((with_reducible refine gate_store (t := 38) (p := 6) rfl ?_); refine wl_store 38 (.tmp 6) (.tmp 124) rfl rfl rfl gs 0 [Value.int .u8 n0, Value.int .u8 n1, Value.int .u8 n2, Value.int .u8 n3, Value.int .u8 n4, Value.int .u8 n5, Value.int .u8 n6, Value.int .u8 n7] rfl rfl _ 38 size38 HS19.out (Nat.le_of_eq rfl) (by intro v hv; simp at hv; rcases hv with rfl | rfl | rfl | rfl | rfl | rfl | rfl | rfl <;> rfl) ?_; intro w20 hb8 hgr; have HS20 := Aside0.mk (show w20.heap[gs]? = some (.cells #[.int .u8 n0, .int .u8 n1, .int .u8 n2, .int .u8 n3, .int .u8 n4, .int .u8 n5, .int .u8 n6, .int .u8 n7] 38 (0, 0)) from hb8); have HD20 := Aside0.mk (HD19.out.grown hgr (fun i hi => by cases hi; exact ⟨_, _, HS19.out, by decide, by decide⟩)); have HB20 := Aside0.mk (HB19.out.grown hgr HB19.out.size (fun i hi => by cases hi; exact HGS.out)); clear hb8 hgr))
                      go_wp2
                      go_roundw
                      case rel => exact ⟨k + 1, d7, nx, by omega, by omega, by go_num, HD20, HB20, ⟨by rw [HNG.out]; exact HS20.out⟩, ⟨by rw [hX]; exact HWH.out.1, HN8.out, HNEW.out.1, HNEW.out.2⟩⟩
                      case measure => simp [intOf]; omega
                    · exfalso
                      rcases HX.out.2.1 with h | ⟨_, h⟩
                      · exact hX h.symm
                      · exact h rfl
                · obtain rfl : j = tn := by omega
                  have g1 : decide ((j : Int) < j) = false := decide_eq_false (by omega)
                  obtain ⟨d7, u1, u2, u3, u4, u5, u6, u7⟩ := wh_open HFj.out.1
                  have HU1 := Aside0.mk u1
                  have HU := Aside0.mk (And.intro u2 (And.intro u3 (And.intro u4 (And.intro u5 (And.intro u6 u7)))))
                  have hcn5 := HFj.out.2.1
                  clear u1 u2 u3 u4 u5 u6 u7
                  go_upto_region 24 with (go_at_call 17; refine (open_c W.heap.size g d' W wr HDj.out HBj.out (Nat.le_refl _) (by have := HCN.out.1; omega)).mono ?_; rintro e w18 ⟨v18, rfl, h1, h2, h3, _, h5⟩; rw [HU1.out] at h1 h5 ⊢; obtain ⟨gv, rfl, hg, hw⟩ := h5 rfl; have HD18 := Aside0.mk h1; have HB18 := Aside0.mk h2; have HW18 := Aside0.mk hw; have HS18 := Aside0.mk (h3.2 _ _ _ _ HSj.out (by decide) (by decide)); have HN18 := Aside0.mk (h3.2 _ _ _ _ HNj.out (by decide) (by decide)); clear h1 h2 h3 h5 hg hw)
                  have HWH := Aside0.mk (wh_open2 HFj.out.1 HU.out.1 HU.out.2.1 HU.out.2.2.1 HU.out.2.2.2.1 (sec_of HD18.out))
                  have hsq : seqTo d7 64 = seqTo d3 64 := HWH.out.2.trans (wh_seq HX.out.1 HFj.out.1 HFj.out.2.2)
                  have HNEW := Aside0.mk (show d7.cnt ≤ 448 * (k + 1) ∧ seqTo d7 64 ≤ ((k + 1 : Nat) : Int) from ⟨by have := HCN.out.1; have := HU.out.2.2.2.2.1; omega, by rw [hsq]; exact HX.out.2.2.2⟩)
                  clear hsq hcn5
                  have HIN := Aside0.mk (show Calls Try.prog 18 #[.agg #[.int .u8 n0, .int .u8 n1, .int .u8 n2, .int .u8 n3, .int .u8 n4, .int .u8 n5, .int .u8 n6, .int .u8 n7], .pointer (some ⟨gv, 0, none⟩)] w18 _ from by
                    have h := is_calls W.heap.size gv g _ d7 nx X HN8.out HX8.out W w18 HW18.out HD18.out HB18.out (Nat.le_refl _) (by have := HNEW.out.1; omega) HU.out.2.2.2.2.2
                    rw [HNG.out] at h
                    exact h)
                  go_upto_region 26 with fail
                  have cn0 := (blk_cell HN18.out 0).trans (rfl : _ = some (Value.int .u8 n0))
                  have cn1 := (blk_cell HN18.out 1).trans (rfl : _ = some (Value.int .u8 n1))
                  have cn2 := (blk_cell HN18.out 2).trans (rfl : _ = some (Value.int .u8 n2))
                  have cn3 := (blk_cell HN18.out 3).trans (rfl : _ = some (Value.int .u8 n3))
                  have cn4 := (blk_cell HN18.out 4).trans (rfl : _ = some (Value.int .u8 n4))
                  have cn5 := (blk_cell HN18.out 5).trans (rfl : _ = some (Value.int .u8 n5))
                  have cn6 := (blk_cell HN18.out 6).trans (rfl : _ = some (Value.int .u8 n6))
                  have cn7 := (blk_cell HN18.out 7).trans (rfl : _ = some (Value.int .u8 n7))
                  by_cases hX : nx = X
                  · go_upto_region 27 with (go_at_call 18; refine HIN.out.mono ?_; rintro e w19 ⟨r9, rfl, h1, h2, h3, h4, h5, h6⟩; obtain rfl := h2 hX; have HD19 := Aside0.mk h3; have HB19 := Aside0.mk h5; have HS19 := Aside0.mk (h6.2 _ _ _ _ HS18.out (by decide) (by decide)); have HN19 := Aside0.mk (h6.2 _ _ _ _ HN18.out (by decide) (by decide)); clear h1 h2 h3 h4 h5 h6)
                    clear cn0 cn1 cn2 cn3 cn4 cn5 cn6 cn7
                    go_upto_region 5 with (first
                      | ((with_reducible refine gate_dst (N := 124) rfl ?_); refine wl_load 38 (.tmp 12) rfl rfl ⟨q, 0, none⟩ [Value.int .u8 n0, Value.int .u8 n1, Value.int .u8 n2, Value.int .u8 n3, Value.int .u8 n4, Value.int .u8 n5, Value.int .u8 n6, Value.int .u8 n7] rfl _ Try.underlying38 rfl size38 (cells_of HN19.out) ?_)
                      | ((with_reducible refine gate_store (t := 38) (p := 6) rfl ?_); refine wl_store 38 (.tmp 6) (.tmp 124) rfl rfl rfl gs 0 [Value.int .u8 n0, Value.int .u8 n1, Value.int .u8 n2, Value.int .u8 n3, Value.int .u8 n4, Value.int .u8 n5, Value.int .u8 n6, Value.int .u8 n7] rfl rfl _ 38 size38 HS19.out (Nat.le_of_eq rfl) (by intro v hv; simp at hv; rcases hv with rfl | rfl | rfl | rfl | rfl | rfl | rfl | rfl <;> rfl) ?_; intro w20 hb8 hgr; have HS20 := Aside0.mk (show w20.heap[gs]? = some (.cells #[.int .u8 n0, .int .u8 n1, .int .u8 n2, .int .u8 n3, .int .u8 n4, .int .u8 n5, .int .u8 n6, .int .u8 n7] 38 (0, 0)) from hb8); have HD20 := Aside0.mk (HD19.out.grown hgr (fun i hi => by cases hi; exact ⟨_, _, HS19.out, by decide, by decide⟩)); have HB20 := Aside0.mk (HB19.out.grown hgr HB19.out.size (fun i hi => by cases hi; exact HGS.out)); clear hb8 hgr))
                    go_wp2
                    go_roundw
                    case rel => exact ⟨k + 1, d7, nx, by omega, by omega, by go_num, HD20, HB20, ⟨by rw [HNG.out]; exact HS20.out⟩, ⟨by rw [hX]; exact HWH.out.1, HN8.out, HNEW.out.1, HNEW.out.2⟩⟩
                    case measure => simp [intOf]; omega
                  · exfalso
                    rcases HX.out.2.1 with h | ⟨_, h⟩
                    · exact hX h.symm
                    · exact h rfl
            · subst he
              go_upto_region 16 with fail
              go_upto_region 17 with (first
                | ((with_reducible refine gate_dst (N := 77) rfl ?_); refine Kd.R_lit Kd.bool w12.heap.size 4 ?hg (N := 77) ?hd (xs := ([] : List Bool)) (inner := []) (ok := fun _ => True) (okp := fun _ => True) ?hr ?hp (fun _ hk => hk) trivial (Below.refl _ _) (Nat.le_refl _) (by simp) ?_; (case hd => rfl); (case hg => rfl); (case hr => first | (go_simp; done) | (go_simp; rfl)); (case hp => exact (Reps.none _ _)); intro v13 w13 ho4 hb hg_ hnew_; clear hg_ hnew_; have HO13 := Aside0.mk ho4; have HB13 := Aside0.mk hb; have b6 := (blk_cell (blk_below HQ12.out hb) 2).trans (rfl : _ = some (Value.slice A2 kp.length c2)); clear hb ho4)
                | ((with_reducible refine gate_dst (N := 80) rfl ?_); at_builtin; refine Kd.R_append_rows Kd.bool (w0 := w12) w12.heap.size rfl (.tmp 77) (.tmp 79) 44 4 (.bool false) 1 rfl Try.underlying44 INF.out rfl (by decide) (by omega) v13 [] kp _ _ _ (fun _ => True) (fun _ => False) rfl rfl ?aO ?aR (fun _ _ h => h) (fun _ h => h.elim) ?aF ?aB ?aS ?aL ?_; (case aR => exact Kd.C_below (HKW.out w12 HB12.out) HB13.out); (case aB => exact HB13.out); (case aF => exact (fun _ _ => trivial)); (case aO => exact HO13.out); (case aS => exact HB13.out.size); (case aL => have h9 : kp.length ≤ R := HOA.out.keep; simp; omega); intro v14 w14 ho hb hg hat; obtain ⟨A14, c14, rfl⟩ := Kd.R_slice ho; rw [List.nil_append] at ho; have HO14 := Aside0.mk ho; have HB14 := Aside0.mk hb; clear ho hb hg hat)
                | (go_at_call 23; refine (crash_calls W.heap.size g d2 W w14 (HD12.out.below HB14.out) (HB12.out.trans (HB14.out.mono HB12.out.size)) (Nat.le_refl _) (by have := HCN.out; omega) A14 c14 kp (fun W' h1 _ => lies_bool HO14.out W' h1)).mono ?_; rw [HO1'.out]; rintro e w15 ⟨rfl, h1, h2, h3⟩; have HD15 := Aside0.mk h1; have HB15 := Aside0.mk h2; have HS15 := Aside0.mk (h3.2 _ _ _ _ (blk_below HS12.out HB14.out) (by decide) (by decide)); have HN15 := Aside0.mk (h3.2 _ _ _ _ (blk_below HN12.out HB14.out) (by decide) (by decide)); clear h1 h2 h3))
              clear b5
              go_wp2_with fail
              go_loopw [13] (fun x wr => ∃ (j : Nat) (d' : D), j ≤ tn ∧ j ≤ 3 ∧ x = .int .i64 j ∧ Aside0 (IsD W.heap.size wr g d') ∧ Aside0 (Below W.heap.size W wr) ∧ Aside0 (wr.heap[gs]? = some (.cells #[.int .u8 a0, .int .u8 a1, .int .u8 a2, .int .u8 a3, .int .u8 a4, .int .u8 a5, .int .u8 a6, .int .u8 a7] 38 (0, 0))) ∧ Aside0 (wr.heap[q]? = some (.cells #[.int .u8 n0, .int .u8 n1, .int .u8 n2, .int .u8 n3, .int .u8 n4, .int .u8 n5, .int .u8 n6, .int .u8 n7] 38 (0, 0))) ∧ Aside0 (Wh d' X ∧ d'.cnt ≤ d.cnt + 192 + 64 * j ∧ logF d'.fast = logF d3.fast)) (fun x _ => 3 - (intOf x).toNat)
              case atStart => exact ⟨0, d3, Nat.zero_le _, Nat.zero_le _, rfl, HD15, HB15, HS15, HN15, ⟨HX.out.1, HX.out.2.2.1, rfl⟩⟩
              case round =>
                obtain ⟨j, d', hj, hj3, rfl, HDj, HBj, HSj, HNj, HFj⟩ := hrel
                by_cases hjt : j < tn
                · have g1 : decide ((j : Int) < tn) = true := decide_eq_true (by omega)
                  by_cases hjt3 : j < 3
                  · have g2 : decide ((j : Int) < 3) = true := decide_eq_true (by omega)
                    obtain ⟨ad2, A3, c3, A4, c4, hA, hc0, hc1, hc2, hle0, hC0, hle2, hC2⟩ := act_at HT.out j hjt
                    subst hA
                    have hOA := HOT.out (t.getD j act0) (by rw [List.getD_eq_getElem?_getD, List.getElem?_eq_getElem (by rw [← HTN.out]; exact hjt)]; exact List.getElem_mem _)
                    obtain ⟨a, ha⟩ : ∃ a, a = t.getD j act0 := ⟨_, rfl⟩
                    rw [← ha] at hc0 hc1 hc2 hle0 hC0 hle2 hC2 hOA
                    have HAK2 := Aside0.mk (show ∀ w', Below W.heap.size W w' → w'.cell? ⟨(ad2.add (j * 3)).block, (ad2.add (j * 3)).off + 1, none⟩ = some (.int .i64 a.2.1) ∧ w'.cell? ⟨(ad2.add (j * 3)).block, (ad2.add (j * 3)).off + 2, none⟩ = some (.slice A4 a.2.2.length c4) from fun w' hb => ⟨cell_on hc1 hb, cell_on hc2 hb⟩)
                    have HKW2 := Aside0.mk (show ∀ w', Below W.heap.size W w' → Kd.C Kd.bool w' A4 a.2.2.length a.2.2 from fun w' hb => Kd.C_below hC2 hb)
                    obtain ⟨lp2, arm2, kp2⟩ := a
                    dsimp only at HAK2 HKW2
                    have HOA2 := Aside0.mk hOA
                    clear hOA ha hc0 hc1 hc2 hC0 hC2 hle0 hle2
                    have r1 := (HAK2.out wr HBj.out).1
                    go_upto_region 21 with (go_at_call 19; refine (arm_calls W.heap.size g d' arm2 HOA2.out.arm.2 W wr HDj.out HBj.out).mono ?_; rintro e w16 ⟨rfl, h1, h2, h3⟩; have HD16 := Aside0.mk h1; have HB16 := Aside0.mk h2; have HS16 := Aside0.mk (h3.2 _ _ _ _ HSj.out (by decide) (by decide)); have HN16 := Aside0.mk (h3.2 _ _ _ _ HNj.out (by decide) (by decide)); clear h1 h2 h3)
                    clear r1
                    have hcn6 : (armD d' arm2).cnt = d'.cnt := rfl
                    go_upto_region 22 with (go_at_call 17; refine (open_c W.heap.size g (armD d' arm2) W w16 HD16.out HB16.out (Nat.le_refl _) (by have := HCN.out.1; have := HFj.out.2.1; omega)).mono ?_; rintro e w17 ⟨v17, rfl, h1, h2, h3, _, _⟩; have HD17 := Aside0.mk h1; have HB17 := Aside0.mk h2; have HS17 := Aside0.mk (h3.2 _ _ _ _ HS16.out (by decide) (by decide)); have HN17 := Aside0.mk (h3.2 _ _ _ _ HN16.out (by decide) (by decide)); clear h1 h2 h3)
                    clear hcn6
                    obtain ⟨d5, d6, t1, t2, t3, t4, t5, t6⟩ := wh_twice HFj.out.1 arm2 kp2 HD17.out.secs (sec_of HD17.out)
                    rw [t1] at HD17
                    have HT3 := Aside0.mk t3
                    have HT4 := Aside0.mk (And.intro t4 (And.intro t5 t6))
                    have hcn5 := HFj.out.2.1
                    have r2 := (HAK2.out w17 HB17.out).2
                    clear t1 t3 t4 t5 t6
                    go_upto_region 19 with (first
                      | ((with_reducible refine gate_dst (N := 102) rfl ?_); refine Kd.R_lit Kd.bool w17.heap.size 4 ?hg (N := 102) ?hd (xs := ([] : List Bool)) (inner := []) (ok := fun _ => True) (okp := fun _ => True) ?hr ?hp (fun _ hk => hk) trivial (Below.refl _ _) (Nat.le_refl _) (by simp) ?_; (case hd => rfl); (case hg => rfl); (case hr => first | (go_simp; done) | (go_simp; rfl)); (case hp => exact (Reps.none _ _)); intro v13 w13 ho4 hb hg_ hnew_; clear hg_ hnew_; have HO13 := Aside0.mk ho4; have HB13 := Aside0.mk hb; have r3 := (HAK2.out w13 (HB17.out.trans (hb.mono HB17.out.size))).2; clear hb ho4)
                      | ((with_reducible refine gate_dst (N := 108) rfl ?_); at_builtin; refine Kd.R_append_rows Kd.bool (w0 := w17) w17.heap.size rfl (.tmp 102) (.tmp 107) 44 4 (.bool false) 1 rfl Try.underlying44 INF.out rfl (by decide) (by omega) v13 [] kp2 _ _ _ (fun _ => True) (fun _ => False) rfl rfl ?aO ?aR (fun _ _ h => h) (fun _ h => h.elim) ?aF ?aB ?aS ?aL ?_; (case aR => exact Kd.C_below (HKW2.out w17 HB17.out) HB13.out); (case aB => exact HB13.out); (case aF => exact (fun _ _ => trivial)); (case aO => exact HO13.out); (case aS => exact HB13.out.size); (case aL => have h9 : kp2.length ≤ R := HOA2.out.keep; simp; omega); intro v14 w14 ho hb hg hat; obtain ⟨A14, c14, rfl⟩ := Kd.R_slice ho; rw [List.nil_append] at ho; have HO14 := Aside0.mk ho; have HB14 := Aside0.mk hb; clear ho hb hg hat)
                      | (go_at_call 23; refine (crash_calls W.heap.size g d5 W w14 (HD17.out.below HB14.out) (HB17.out.trans (HB14.out.mono HB17.out.size)) (Nat.le_refl _) (by have := HCN.out; omega) A14 c14 kp2 (fun W' h1 _ => lies_bool HO14.out W' h1)).mono ?_; rw [HT3.out]; rintro e w15 ⟨rfl, h1, h2, h3⟩; have HD15 := Aside0.mk h1; have HB15 := Aside0.mk h2; have HS15 := Aside0.mk (h3.2 _ _ _ _ (blk_below HS17.out HB14.out) (by decide) (by decide)); have HN15 := Aside0.mk (h3.2 _ _ _ _ (blk_below HN17.out HB14.out) (by decide) (by decide)); clear h1 h2 h3))
                    go_wp2
                    go_roundw
                    case rel => exact ⟨j + 1, d6, by omega, by omega, by go_num, HD15, HB15, HS15, HN15, ⟨HT4.out.1, by have := HT4.out.2.1; omega, HT4.out.2.2.trans HFj.out.2.2⟩⟩
                    case measure => simp [intOf]; omega
                  · obtain rfl : j = 3 := by omega
                    have g2 : decide (((3 : Nat) : Int) < 3) = false := by decide
                    obtain ⟨d7, u1, u2, u3, u4, u5, u6, u7⟩ := wh_open HFj.out.1
                    have HU1 := Aside0.mk u1
                    have HU := Aside0.mk (And.intro u2 (And.intro u3 (And.intro u4 (And.intro u5 (And.intro u6 u7)))))
                    have hcn5 := HFj.out.2.1
                    clear u1 u2 u3 u4 u5 u6 u7
                    go_upto_region 24 with (go_at_call 17; refine (open_c W.heap.size g d' W wr HDj.out HBj.out (Nat.le_refl _) (by have := HCN.out.1; omega)).mono ?_; rintro e w18 ⟨v18, rfl, h1, h2, h3, _, h5⟩; rw [HU1.out] at h1 h5 ⊢; obtain ⟨gv, rfl, hg, hw⟩ := h5 rfl; have HD18 := Aside0.mk h1; have HB18 := Aside0.mk h2; have HW18 := Aside0.mk hw; have HS18 := Aside0.mk (h3.2 _ _ _ _ HSj.out (by decide) (by decide)); have HN18 := Aside0.mk (h3.2 _ _ _ _ HNj.out (by decide) (by decide)); clear h1 h2 h3 h5 hg hw)
                    have HWH := Aside0.mk (wh_open2 HFj.out.1 HU.out.1 HU.out.2.1 HU.out.2.2.1 HU.out.2.2.2.1 (sec_of HD18.out))
                    have hsq : seqTo d7 64 = seqTo d3 64 := HWH.out.2.trans (wh_seq HX.out.1 HFj.out.1 HFj.out.2.2)
                    have HNEW := Aside0.mk (show d7.cnt ≤ 448 * (k + 1) ∧ seqTo d7 64 ≤ ((k + 1 : Nat) : Int) from ⟨by have := HCN.out.1; have := HU.out.2.2.2.2.1; omega, by rw [hsq]; exact HX.out.2.2.2⟩)
                    clear hsq hcn5
                    have HIN := Aside0.mk (show Calls Try.prog 18 #[.agg #[.int .u8 n0, .int .u8 n1, .int .u8 n2, .int .u8 n3, .int .u8 n4, .int .u8 n5, .int .u8 n6, .int .u8 n7], .pointer (some ⟨gv, 0, none⟩)] w18 _ from by
                      have h := is_calls W.heap.size gv g _ d7 nx X HN8.out HX8.out W w18 HW18.out HD18.out HB18.out (Nat.le_refl _) (by have := HNEW.out.1; omega) HU.out.2.2.2.2.2
                      rw [HNG.out] at h
                      exact h)
                    go_upto_region 26 with fail
                    have cn0 := (blk_cell HN18.out 0).trans (rfl : _ = some (Value.int .u8 n0))
                    have cn1 := (blk_cell HN18.out 1).trans (rfl : _ = some (Value.int .u8 n1))
                    have cn2 := (blk_cell HN18.out 2).trans (rfl : _ = some (Value.int .u8 n2))
                    have cn3 := (blk_cell HN18.out 3).trans (rfl : _ = some (Value.int .u8 n3))
                    have cn4 := (blk_cell HN18.out 4).trans (rfl : _ = some (Value.int .u8 n4))
                    have cn5 := (blk_cell HN18.out 5).trans (rfl : _ = some (Value.int .u8 n5))
                    have cn6 := (blk_cell HN18.out 6).trans (rfl : _ = some (Value.int .u8 n6))
                    have cn7 := (blk_cell HN18.out 7).trans (rfl : _ = some (Value.int .u8 n7))
                    by_cases hX : nx = X
                    · go_upto_region 27 with (go_at_call 18; refine HIN.out.mono ?_; rintro e w19 ⟨r9, rfl, h1, h2, h3, h4, h5, h6⟩; obtain rfl := h2 hX; have HD19 := Aside0.mk h3; have HB19 := Aside0.mk h5; have HS19 := Aside0.mk (h6.2 _ _ _ _ HS18.out (by decide) (by decide)); have HN19 := Aside0.mk (h6.2 _ _ _ _ HN18.out (by decide) (by decide)); clear h1 h2 h3 h4 h5 h6)
                      clear cn0 cn1 cn2 cn3 cn4 cn5 cn6 cn7
                      go_upto_region 5 with (first
                        | ((with_reducible refine gate_dst (N := 124) rfl ?_); refine wl_load 38 (.tmp 12) rfl rfl ⟨q, 0, none⟩ [Value.int .u8 n0, Value.int .u8 n1, Value.int .u8 n2, Value.int .u8 n3, Value.int .u8 n4, Value.int .u8 n5, Value.int .u8 n6, Value.int .u8 n7] rfl _ Try.underlying38 rfl size38 (cells_of HN19.out) ?_)
                        | ((with_reducible refine gate_store (t := 38) (p := 6) rfl ?_); refine wl_store 38 (.tmp 6) (.tmp 124) rfl rfl rfl gs 0 [Value.int .u8 n0, Value.int .u8 n1, Value.int .u8 n2, Value.int .u8 n3, Value.int .u8 n4, Value.int .u8 n5, Value.int .u8 n6, Value.int .u8 n7] rfl rfl _ 38 size38 HS19.out (Nat.le_of_eq rfl) (by intro v hv; simp at hv; rcases hv with rfl | rfl | rfl | rfl | rfl | rfl | rfl | rfl <;> rfl) ?_; intro w20 hb8 hgr; have HS20 := Aside0.mk (show w20.heap[gs]? = some (.cells #[.int .u8 n0, .int .u8 n1, .int .u8 n2, .int .u8 n3, .int .u8 n4, .int .u8 n5, .int .u8 n6, .int .u8 n7] 38 (0, 0)) from hb8); have HD20 := Aside0.mk (HD19.out.grown hgr (fun i hi => by cases hi; exact ⟨_, _, HS19.out, by decide, by decide⟩)); have HB20 := Aside0.mk (HB19.out.grown hgr HB19.out.size (fun i hi => by cases hi; exact HGS.out)); clear hb8 hgr))
                      go_wp2
                      go_roundw
                      case rel => exact ⟨k + 1, d7, nx, by omega, by omega, by go_num, HD20, HB20, ⟨by rw [HNG.out]; exact HS20.out⟩, ⟨by rw [hX]; exact HWH.out.1, HN8.out, HNEW.out.1, HNEW.out.2⟩⟩
                      case measure => simp [intOf]; omega
                    · obtain rfl : X = st := (HX.out.2.1.resolve_left (fun h => hX h.symm)).1
                      go_upto_region 28 with (go_at_call 18; refine HIN.out.mono ?_; rintro e w19 ⟨r9, rfl, h1, h2, h3, h4, h5, h6⟩; obtain rfl : r9 = false := Bool.eq_false_iff.2 (fun h => hX (h1 h)); have HD19 := Aside0.mk h3; have HW19 := Aside0.mk h4; have HB19 := Aside0.mk h5; have HS19 := Aside0.mk (h6.2 _ _ _ _ HS18.out (by decide) (by decide)); clear h1 h2 h3 h4 h5 h6)
                      clear cn0 cn1 cn2 cn3 cn4 cn5 cn6 cn7
                      have ca0 := (blk_cell HS19.out 0).trans (rfl : _ = some (Value.int .u8 a0))
                      have ca1 := (blk_cell HS19.out 1).trans (rfl : _ = some (Value.int .u8 a1))
                      have ca2 := (blk_cell HS19.out 2).trans (rfl : _ = some (Value.int .u8 a2))
                      have ca3 := (blk_cell HS19.out 3).trans (rfl : _ = some (Value.int .u8 a3))
                      have ca4 := (blk_cell HS19.out 4).trans (rfl : _ = some (Value.int .u8 a4))
                      have ca5 := (blk_cell HS19.out 5).trans (rfl : _ = some (Value.int .u8 a5))
                      have ca6 := (blk_cell HS19.out 6).trans (rfl : _ = some (Value.int .u8 a6))
                      have ca7 := (blk_cell HS19.out 7).trans (rfl : _ = some (Value.int .u8 a7))
                      have HIS2 := Aside0.mk (show Calls Try.prog 18 #[.agg #[.int .u8 a0, .int .u8 a1, .int .u8 a2, .int .u8 a3, .int .u8 a4, .int .u8 a5, .int .u8 a6, .int .u8 a7], .pointer (some ⟨gv, 0, none⟩)] w19 _ from by
                        have h := is_calls W.heap.size gv g _ d7 X X HX8.out HX8.out W w19 HW19.out HD19.out HB19.out (Nat.le_refl _) (by have := HNEW.out.1; omega) HU.out.2.2.2.2.2
                        rw [HAG.out] at h
                        exact h)
                      go_upto_region 5 with (go_at_call 18; refine HIS2.out.mono ?_; rintro e w20 ⟨r9, rfl, h1, h2, h3, h4, h5, h6⟩; obtain rfl := h2 rfl; have HD20 := Aside0.mk h3; have HB20 := Aside0.mk h5; have HS20 := Aside0.mk (h6.2 _ _ _ _ HS19.out (by decide) (by decide)); clear h1 h2 h3 h4 h5 h6)
                      go_wp2
                      go_roundw
                      case rel => exact ⟨k + 1, d7, X, by omega, by omega, by go_num, HD20, HB20, ⟨by rw [HAG.out]; exact HS20.out⟩, ⟨HWH.out.1, HX8.out, HNEW.out.1, HNEW.out.2⟩⟩
                      case measure => simp [intOf]; omega
                · obtain rfl : j = tn := by omega
                  have g1 : decide ((j : Int) < j) = false := decide_eq_false (by omega)
                  obtain ⟨d7, u1, u2, u3, u4, u5, u6, u7⟩ := wh_open HFj.out.1
                  have HU1 := Aside0.mk u1
                  have HU := Aside0.mk (And.intro u2 (And.intro u3 (And.intro u4 (And.intro u5 (And.intro u6 u7)))))
                  have hcn5 := HFj.out.2.1
                  clear u1 u2 u3 u4 u5 u6 u7
                  go_upto_region 24 with (go_at_call 17; refine (open_c W.heap.size g d' W wr HDj.out HBj.out (Nat.le_refl _) (by have := HCN.out.1; omega)).mono ?_; rintro e w18 ⟨v18, rfl, h1, h2, h3, _, h5⟩; rw [HU1.out] at h1 h5 ⊢; obtain ⟨gv, rfl, hg, hw⟩ := h5 rfl; have HD18 := Aside0.mk h1; have HB18 := Aside0.mk h2; have HW18 := Aside0.mk hw; have HS18 := Aside0.mk (h3.2 _ _ _ _ HSj.out (by decide) (by decide)); have HN18 := Aside0.mk (h3.2 _ _ _ _ HNj.out (by decide) (by decide)); clear h1 h2 h3 h5 hg hw)
                  have HWH := Aside0.mk (wh_open2 HFj.out.1 HU.out.1 HU.out.2.1 HU.out.2.2.1 HU.out.2.2.2.1 (sec_of HD18.out))
                  have hsq : seqTo d7 64 = seqTo d3 64 := HWH.out.2.trans (wh_seq HX.out.1 HFj.out.1 HFj.out.2.2)
                  have HNEW := Aside0.mk (show d7.cnt ≤ 448 * (k + 1) ∧ seqTo d7 64 ≤ ((k + 1 : Nat) : Int) from ⟨by have := HCN.out.1; have := HU.out.2.2.2.2.1; omega, by rw [hsq]; exact HX.out.2.2.2⟩)
                  clear hsq hcn5
                  have HIN := Aside0.mk (show Calls Try.prog 18 #[.agg #[.int .u8 n0, .int .u8 n1, .int .u8 n2, .int .u8 n3, .int .u8 n4, .int .u8 n5, .int .u8 n6, .int .u8 n7], .pointer (some ⟨gv, 0, none⟩)] w18 _ from by
                    have h := is_calls W.heap.size gv g _ d7 nx X HN8.out HX8.out W w18 HW18.out HD18.out HB18.out (Nat.le_refl _) (by have := HNEW.out.1; omega) HU.out.2.2.2.2.2
                    rw [HNG.out] at h
                    exact h)
                  go_upto_region 26 with fail
                  have cn0 := (blk_cell HN18.out 0).trans (rfl : _ = some (Value.int .u8 n0))
                  have cn1 := (blk_cell HN18.out 1).trans (rfl : _ = some (Value.int .u8 n1))
                  have cn2 := (blk_cell HN18.out 2).trans (rfl : _ = some (Value.int .u8 n2))
                  have cn3 := (blk_cell HN18.out 3).trans (rfl : _ = some (Value.int .u8 n3))
                  have cn4 := (blk_cell HN18.out 4).trans (rfl : _ = some (Value.int .u8 n4))
                  have cn5 := (blk_cell HN18.out 5).trans (rfl : _ = some (Value.int .u8 n5))
                  have cn6 := (blk_cell HN18.out 6).trans (rfl : _ = some (Value.int .u8 n6))
                  have cn7 := (blk_cell HN18.out 7).trans (rfl : _ = some (Value.int .u8 n7))
                  by_cases hX : nx = X
                  · go_upto_region 27 with (go_at_call 18; refine HIN.out.mono ?_; rintro e w19 ⟨r9, rfl, h1, h2, h3, h4, h5, h6⟩; obtain rfl := h2 hX; have HD19 := Aside0.mk h3; have HB19 := Aside0.mk h5; have HS19 := Aside0.mk (h6.2 _ _ _ _ HS18.out (by decide) (by decide)); have HN19 := Aside0.mk (h6.2 _ _ _ _ HN18.out (by decide) (by decide)); clear h1 h2 h3 h4 h5 h6)
                    clear cn0 cn1 cn2 cn3 cn4 cn5 cn6 cn7
                    go_upto_region 5 with (first
                      | ((with_reducible refine gate_dst (N := 124) rfl ?_); refine wl_load 38 (.tmp 12) rfl rfl ⟨q, 0, none⟩ [Value.int .u8 n0, Value.int .u8 n1, Value.int .u8 n2, Value.int .u8 n3, Value.int .u8 n4, Value.int .u8 n5, Value.int .u8 n6, Value.int .u8 n7] rfl _ Try.underlying38 rfl size38 (cells_of HN19.out) ?_)
                      | ((with_reducible refine gate_store (t := 38) (p := 6) rfl ?_); refine wl_store 38 (.tmp 6) (.tmp 124) rfl rfl rfl gs 0 [Value.int .u8 n0, Value.int .u8 n1, Value.int .u8 n2, Value.int .u8 n3, Value.int .u8 n4, Value.int .u8 n5, Value.int .u8 n6, Value.int .u8 n7] rfl rfl _ 38 size38 HS19.out (Nat.le_of_eq rfl) (by intro v hv; simp at hv; rcases hv with rfl | rfl | rfl | rfl | rfl | rfl | rfl | rfl <;> rfl) ?_; intro w20 hb8 hgr; have HS20 := Aside0.mk (show w20.heap[gs]? = some (.cells #[.int .u8 n0, .int .u8 n1, .int .u8 n2, .int .u8 n3, .int .u8 n4, .int .u8 n5, .int .u8 n6, .int .u8 n7] 38 (0, 0)) from hb8); have HD20 := Aside0.mk (HD19.out.grown hgr (fun i hi => by cases hi; exact ⟨_, _, HS19.out, by decide, by decide⟩)); have HB20 := Aside0.mk (HB19.out.grown hgr HB19.out.size (fun i hi => by cases hi; exact HGS.out)); clear hb8 hgr))
                    go_wp2
                    go_roundw
                    case rel => exact ⟨k + 1, d7, nx, by omega, by omega, by go_num, HD20, HB20, ⟨by rw [HNG.out]; exact HS20.out⟩, ⟨by rw [hX]; exact HWH.out.1, HN8.out, HNEW.out.1, HNEW.out.2⟩⟩
                    case measure => simp [intOf]; omega
                  · obtain rfl : X = st := (HX.out.2.1.resolve_left (fun h => hX h.symm)).1
                    go_upto_region 28 with (go_at_call 18; refine HIN.out.mono ?_; rintro e w19 ⟨r9, rfl, h1, h2, h3, h4, h5, h6⟩; obtain rfl : r9 = false := Bool.eq_false_iff.2 (fun h => hX (h1 h)); have HD19 := Aside0.mk h3; have HW19 := Aside0.mk h4; have HB19 := Aside0.mk h5; have HS19 := Aside0.mk (h6.2 _ _ _ _ HS18.out (by decide) (by decide)); clear h1 h2 h3 h4 h5 h6)
                    clear cn0 cn1 cn2 cn3 cn4 cn5 cn6 cn7
                    have ca0 := (blk_cell HS19.out 0).trans (rfl : _ = some (Value.int .u8 a0))
                    have ca1 := (blk_cell HS19.out 1).trans (rfl : _ = some (Value.int .u8 a1))
                    have ca2 := (blk_cell HS19.out 2).trans (rfl : _ = some (Value.int .u8 a2))
                    have ca3 := (blk_cell HS19.out 3).trans (rfl : _ = some (Value.int .u8 a3))
                    have ca4 := (blk_cell HS19.out 4).trans (rfl : _ = some (Value.int .u8 a4))
                    have ca5 := (blk_cell HS19.out 5).trans (rfl : _ = some (Value.int .u8 a5))
                    have ca6 := (blk_cell HS19.out 6).trans (rfl : _ = some (Value.int .u8 a6))
                    have ca7 := (blk_cell HS19.out 7).trans (rfl : _ = some (Value.int .u8 a7))
                    have HIS2 := Aside0.mk (show Calls Try.prog 18 #[.agg #[.int .u8 a0, .int .u8 a1, .int .u8 a2, .int .u8 a3, .int .u8 a4, .int .u8 a5, .int .u8 a6, .int .u8 a7], .pointer (some ⟨gv, 0, none⟩)] w19 _ from by
                      have h := is_calls W.heap.size gv g _ d7 X X HX8.out HX8.out W w19 HW19.out HD19.out HB19.out (Nat.le_refl _) (by have := HNEW.out.1; omega) HU.out.2.2.2.2.2
                      rw [HAG.out] at h
                      exact h)
                    go_upto_region 5 with (go_at_call 18; refine HIS2.out.mono ?_; rintro e w20 ⟨r9, rfl, h1, h2, h3, h4, h5, h6⟩; obtain rfl := h2 rfl; have HD20 := Aside0.mk h3; have HB20 := Aside0.mk h5; have HS20 := Aside0.mk (h6.2 _ _ _ _ HS19.out (by decide) (by decide)); clear h1 h2 h3 h4 h5 h6)
                    go_wp2
                    go_roundw
                    case rel => exact ⟨k + 1, d7, X, by omega, by omega, by go_num, HD20, HB20, ⟨by rw [HAG.out]; exact HS20.out⟩, ⟨HWH.out.1, HX8.out, HNEW.out.1, HNEW.out.2⟩⟩
                    case measure => simp [intOf]; omega
        · skip
          have f4 : decide ((60 : Int) < lp.length) = false := decide_eq_false (by omega)
          obtain ⟨m, hm⟩ : ∃ m, m = lp.length := ⟨_, rfl⟩
          rw [← hm] at f4 HC0 hc0 h60 hle0 HAK ⊢
          have HMM := Aside0.mk hm
          clear hm
          obtain ⟨w8, hw8⟩ : ∃ w8, w8 = w7.alloc (.cells #[.slice A0 m c0, .int .i64 arm, .slice A2 kp.length c2] 46) := ⟨_, rfl⟩
          have HB8 := Aside0.mk (show Below w7.heap.size w7 w8 by rw [hw8]; exact below_alloc (Below.refl _ _) _)
          have HQ8 := Aside0.mk (show w8.heap[gb]? = some (.cells #[.slice A0 m c0, .int .i64 arm, .slice A2 kp.length c2] 46 (0, 0)) by rw [hw8, hgb]; exact blk_new w7 _)
          rw [← hw8, ← hgb]
          clear hw8 hgb
          have b0 : w8.cell? ⟨gb, 0, none⟩ = some (.slice A0 m c0) := (blk_cell HQ8.out 0).trans rfl
          have b0f := blk_frozen HQ8.out 0
          go_upto_region 12 with fail
          obtain ⟨w9, hw9⟩ : ∃ w9, w9 = w8 := ⟨_, rfl⟩
          have hb9 : Below w7.heap.size w7 w9 := by rw [hw9]; exact HB8.out
          have q9 : w9.heap[gb]? = some (.cells #[.slice A0 m c0, .int .i64 arm, .slice A2 kp.length c2] 46 (0, 0)) := by rw [hw9]; exact HQ8.out
          rw [← hw9]
          have e60 : lq = lp := by rw [HLQ.out]; exact List.take_of_length_le (by rw [← HMM.out]; omega)
          have HLW := Aside0.mk (show ∀ w', Below W.heap.size W w' → Kd.C putK w' A0 m lq from fun w' hb => by rw [e60]; exact (HAK.out w' hb).2.2.2.1)
          clear hw9 h60 f4 b0 b0f HAK HQ8 HMM hle0 e60
          have HPO := Aside0.mk (show ∀ p ∈ pagesW lq, thereB 72 p.f0 = true ∧ p.f1.length = 512 ∧ BytesOk p.f1 from pagesW_ok HLP.out)
          have HPN := Aside0.mk (show (pagesW lq).length ≤ 100000 by unfold pagesW; rw [List.length_map, List.length_take]; omega)
          have HQ9 := Aside0.mk q9
          have HS9 := Aside0.mk (blk_below HS7.out hb9)
          have HD9 := Aside0.mk (HD7.out.below hb9)
          have HB9 := Aside0.mk (HB7.out.trans (hb9.mono HB7.out.size))
          have HW9 := Aside0.mk (HW7.out.below hb9)
          have b1 : w9.cell? ⟨gb, 1, none⟩ = some (.int .i64 arm) := (blk_cell q9 1).trans rfl
          clear hb9 q9 HB8
          go_upto_region 13 with (go_at_call 19; refine (arm_calls W.heap.size g d1 arm HOA.out.arm.2 W w9 HD9.out HB9.out).mono ?_; rintro e w10 ⟨rfl, h1, h2, h3⟩; have HD10 := Aside0.mk h1; have HB10 := Aside0.mk h2; have HW10 := Aside0.mk (HW9.out.keep h3); have HQ10 := Aside0.mk (h3.2 _ _ _ _ HQ9.out (by decide) (by decide)); have HS10 := Aside0.mk (h3.2 _ _ _ _ HS9.out (by decide) (by decide)); clear h1 h2 h3)
          clear b1
          have HAFT := Aside0.mk (show ∀ w', Below W.heap.size W w' → Calls Try.prog 22 #[.agg #[.int .u8 a0, .int .u8 a1, .int .u8 a2, .int .u8 a3, .int .u8 a4, .int .u8 a5, .int .u8 a6, .int .u8 a7], .slice A0 m c0] w' fun e w'' => e = .returned (.agg #[.int .u8 n0, .int .u8 n1, .int .u8 n2, .int .u8 n3, .int .u8 n4, .int .u8 n5, .int .u8 n6, .int .u8 n7]) ∧ Below w'.heap.size w' w'' from fun w' hb => by
            have h := after_calls w' A0 m c0 lq st (HLW.out w' hb) HFk.out.2.1.1
            rw [HAG.out, ← HAF.out, HNG.out] at h
            exact h)
          have hdr : Below w10.heap.size w10 w10.drew := below_drew (Below.refl _ _)
          refine start_ (n := 12) (S := fun w' => Below W.heap.size W w' ∧ KeepW w10 w') (ds := []) #[false, false, false, false, false, false, false, false, false, false, false, false] (by kernel_rfl) rfl rfl ⟨HB10.out.trans (hdr.mono HB10.out.size), KeepW.of_below hdr⟩ (fun hHeld => ?_)
          have HDd := Aside0.mk (And.intro (HD10.out.below hdr) (HW10.out.below hdr))
          generalize w10.drew = wD at hdr hHeld HDd ⊢
          refine pure_ (i := 0) (N := some 61) (v := ?_) (a' := ?_) #[true, false, false, false, false, false, false, false, false, false, false, false] rfl rfl (by kernel_rfl) (fun _ _ _ h => h) (Or.inl ⟨by rfl, ?_⟩) ?_ ?_
          rotate_left
          · intro w'
            go_simp
            with_reducible rfl
          rotate_left
          · simp only [Act.put, List.setIfInBounds_toArray, List.set_cons_zero, List.set_cons_succ]
            rfl
          refine pure_ (i := 1) (N := some 62) (v := ?_) (a' := ?_) #[true, true, false, false, false, false, false, false, false, false, false, false] rfl rfl (by kernel_rfl) (fun _ _ _ h => h) (Or.inl ⟨by rfl, ?_⟩) ?_ ?_
          rotate_left
          · intro w'
            go_simp
            with_reducible rfl
          rotate_left
          · simp only [Act.put, List.setIfInBounds_toArray, List.set_cons_zero, List.set_cons_succ]
            rfl
          refine take_ (i := 2) (N := some 63) (v := ?_) (a' := ?_) #[true, true, true, false, false, false, false, false, false, false, false, false] rfl rfl (by kernel_rfl) (fun _ _ _ h => h) (Or.inl ⟨by rfl, ?_⟩) hHeld ?_ ?_
          rotate_left
          · intro w' s0
            have s1 := (blk_cell (s0.2.2 _ _ _ _ HQ10.out (by decide) (by decide) (by decide)) 0).trans (rfl : _ = some (Value.slice A0 m c0))
            go_simp
            with_reducible rfl
          rotate_left
          · simp only [Act.put, List.setIfInBounds_toArray, List.set_cons_zero, List.set_cons_succ]
            rfl
          refine take_ (i := 5) (N := some 66) (v := .agg #[.int .u8 a0, .int .u8 a1, .int .u8 a2, .int .u8 a3, .int .u8 a4, .int .u8 a5, .int .u8 a6, .int .u8 a7]) (a' := ?_) #[true, true, true, false, false, true, false, false, false, false, false, false] rfl rfl (by kernel_rfl) (fun _ _ _ h => h) (Or.inl ⟨by rfl, ?_⟩) hHeld ?_ ?_
          · intro w' s0
            have s1 := s0.2.2 _ _ _ _ HS10.out (by decide) (by decide) (by decide)
            have cs0 := (blk_cell s1 0).trans (rfl : _ = some (Value.int .u8 a0))
            have cs1 := (blk_cell s1 1).trans (rfl : _ = some (Value.int .u8 a1))
            have cs2 := (blk_cell s1 2).trans (rfl : _ = some (Value.int .u8 a2))
            have cs3 := (blk_cell s1 3).trans (rfl : _ = some (Value.int .u8 a3))
            have cs4 := (blk_cell s1 4).trans (rfl : _ = some (Value.int .u8 a4))
            have cs5 := (blk_cell s1 5).trans (rfl : _ = some (Value.int .u8 a5))
            have cs6 := (blk_cell s1 6).trans (rfl : _ = some (Value.int .u8 a6))
            have cs7 := (blk_cell s1 7).trans (rfl : _ = some (Value.int .u8 a7))
            first | (go_simp; done) | (go_simp; rfl)
          rotate_left
          · simp only [Act.put, List.setIfInBounds_toArray, List.set_cons_zero, List.set_cons_succ]
            rfl
          refine pure_ (i := 6) (N := some 67) (v := ?_) (a' := ?_) #[true, true, true, false, false, true, true, false, false, false, false, false] rfl rfl (by kernel_rfl) (fun _ _ _ h => h) (Or.inl ⟨by rfl, ?_⟩) ?_ ?_
          rotate_left
          · intro w'
            go_simp
            with_reducible rfl
          rotate_left
          · simp only [Act.put, List.setIfInBounds_toArray, List.set_cons_zero, List.set_cons_succ]
            rfl
          refine take_ (i := 7) (N := some 68) (v := ?_) (a' := ?_) #[true, true, true, false, false, true, true, true, false, false, false, false] rfl rfl (by kernel_rfl) (fun _ _ _ h => h) (Or.inl ⟨by rfl, ?_⟩) hHeld ?_ ?_
          rotate_left
          · intro w' s0
            have s1 := (blk_cell (s0.2.2 _ _ _ _ HQ10.out (by decide) (by decide) (by decide)) 0).trans (rfl : _ = some (Value.slice A0 m c0))
            go_simp
            with_reducible rfl
          rotate_left
          · simp only [Act.put, List.setIfInBounds_toArray, List.set_cons_zero, List.set_cons_succ]
            rfl
          refine lattice3 (l0 := #[true, true, true, false, false, true, true, true, false, false, false, false]) [3, 4, 8, 9] [[false, false, false, false], [true, false, false, false], [true, true, false, false], [true, true, true, false], [false, false, false, true], [true, false, false, true], [true, true, false, true], [true, true, true, true]] [64, 65, 69, 12] (by kernel_rfl) (by kernel_rfl) (by decide) (by kernel_rfl) (by kernel_rfl) (by kernel_rfl) (fun d xs w' => ∃ x0 x1 x2 x3, xs = [x0, x1, x2, x3] ∧ (d.getD 1 true = false → IsD W.heap.size w' g (armD d1 arm) ∧ IsWl w' gw g s) ∧ (d.getD 0 false = true → ∃ Ap cp, x0 = .slice Ap (pagesW lq).length cp ∧ PgL w' Ap (pagesW lq).length (pagesW lq)) ∧ (d.getD 1 false = true → x1 = .int .i64 e ∧ IsD W.heap.size w' g d2) ∧ (d.getD 2 false = true → x2 = .agg #[.int .u8 n0, .int .u8 n1, .int .u8 n2, .int .u8 n3, .int .u8 n4, .int .u8 n5, .int .u8 n6, .int .u8 n7]) ∧ (d.getD 3 false = true → ∃ q, x3 = .pointer (some ⟨q, 0, none⟩) ∧ w'.heap[q]? = some (.cells #[.int .u8 0, .int .u8 0, .int .u8 0, .int .u8 0, .int .u8 0, .int .u8 0, .int .u8 0, .int .u8 0] 38 (0, 0)) ∧ w10.heap.size ≤ q)) 2 rfl (by kernel_rfl) hHeld ?hF ?hstep ?hfin
          case hF =>
            intro xs hx
            match xs, hx with
            | [x0, x1, x2, x3], _ => exact ⟨x0, x1, x2, x3, rfl, fun _ => HDd.out, fun h => absurd h (by decide), fun h => absurd h (by decide), fun h => absurd h (by decide), fun h => absurd h (by decide)⟩
          case hstep =>
            intro j hj
            have hj : j < 4 := hj
            rcases (by omega : j = 0 ∨ j = 1 ∨ j = 2 ∨ j = 3) with rfl | rfl | rfl | rfl
            · intro d hd hjn hn xs wl hx hSl ⟨x0, x1, x2, x3, hxs, fa, fp, fc, ft, fq⟩ a' ha o ho K hK
              subst hxs
              obtain rfl := Option.some.inj (ho.symm.trans (rfl : _ = some _))
              simp only [putVs, Act.put, List.setIfInBounds_toArray, List.set_cons_zero, List.set_cons_succ] at ha
              subst ha
              refine goes_ Try.func21 (by kernel_rfl) rfl #[.slice A0 m c0, .int .i64 8] (by rfl) rfl rfl (by (try simp only [List.map_toArray, List.map_cons, List.map_nil]); first | done | rfl) ?_
              refine (pages_calls wl A0 m c0 lq (HLW.out wl hSl.1)).mono ?_
              rintro e' w11 ⟨v11, rfl, h1, hb1⟩
              obtain ⟨Ap, cp, rfl, _, hpl⟩ := pgL_of_R h1
              have hk1 := KeepW.of_below hb1
              refine ⟨_, rfl, ?_⟩
              exact hK.out _ w11 ⟨hSl.1.trans (hb1.mono hSl.1.size), hSl.2.trans hk1⟩ ⟨_, _, _, _, rfl, fun n1 => ⟨(fa ((on_net d 0 1 (by decide)).symm.trans n1)).1.below hb1, (fa ((on_net d 0 1 (by decide)).symm.trans n1)).2.below hb1⟩, fun h0 => ⟨Ap, cp, rfl, hpl⟩, fun h1 => absurd ((on_ne d 0 1 (by decide)).symm.trans h1) (fun h2 => bit_abs (before_of (j := 0) (k := 1) (by kernel_rfl) hd hjn hn) h2), fun h2 => absurd ((on_ne d 0 2 (by decide)).symm.trans h2) (fun h2 => bit_abs (before_of (j := 0) (k := 2) (by kernel_rfl) hd hjn hn) h2), fun h3 => (by obtain ⟨q, e6, h6, h7⟩ := (fq ((on_ne d 0 3 (by decide)).symm.trans h3)); exact ⟨q, e6, hk1.2 _ _ _ _ h6 (by decide) (by decide) (by decide), h7⟩)⟩
            · intro d hd hjn hn xs wl hx hSl ⟨x0, x1, x2, x3, hxs, fa, fp, fc, ft, fq⟩ a' ha o ho K hK
              subst hxs
              obtain rfl := Option.some.inj (ho.symm.trans (rfl : _ = some _))
              simp only [putVs, Act.put, List.setIfInBounds_toArray, List.set_cons_zero, List.set_cons_succ] at ha
              subst ha
              have ga := fa hjn
              have gp := fp (after_of (j := 1) (k := 0) (by kernel_rfl) hd hjn hn)
              obtain ⟨Ap, cp, rfl, hpl⟩ := gp
              refine goes_ Try.func20 (by kernel_rfl) rfl #[.pointer (some ⟨gw, 0, none⟩), .slice Ap (pagesW lq).length cp] (by rfl) rfl rfl (by (try simp only [List.map_toArray, List.map_cons, List.map_nil]); first | done | rfl) ?_
              refine (commit_c W.heap.size gw g s (armD d1 arm) W wl Ap (pagesW lq).length cp (pagesW lq) hpl ga.2 ga.1 hSl.1 (Nat.le_refl _) HG6.out HO2.out.1 HO2.out.2 (fun p hp => (HPO.out p hp).2.2) (by have : (armD d1 arm).cnt = d1.cnt := rfl; have := HCN.out; omega) HPN.out).mono ?_
              rw [HO6.out]
              rintro e' w11 ⟨rfl, z1, z2, z3, hk1⟩
              refine ⟨_, rfl, ?_⟩
              exact hK.out _ w11 ⟨z3, hSl.2.trans hk1⟩ ⟨_, _, _, _, rfl, fun n1 => absurd n1 (by rw [on_att]; decide), fun h0 => (by obtain ⟨Ap', cp', e6, h6⟩ := (fp (after_of (j := 1) (k := 0) (by kernel_rfl) hd hjn hn)); exact ⟨Ap', cp', e6, h6.keep hk1⟩), fun h1 => ⟨rfl, z1⟩, fun h2 => absurd ((on_ne d 1 2 (by decide)).symm.trans h2) (fun h2 => bit_abs (before_of (j := 1) (k := 2) (by kernel_rfl) hd hjn hn) h2), fun h3 => (by obtain ⟨q, e6, h6, h7⟩ := (fq ((on_ne d 1 3 (by decide)).symm.trans h3)); exact ⟨q, e6, hk1.2 _ _ _ _ h6 (by decide) (by decide) (by decide), h7⟩)⟩
            · intro d hd hjn hn xs wl hx hSl ⟨x0, x1, x2, x3, hxs, fa, fp, fc, ft, fq⟩ a' ha o ho K hK
              subst hxs
              obtain rfl := Option.some.inj (ho.symm.trans (rfl : _ = some _))
              simp only [putVs, Act.put, List.setIfInBounds_toArray, List.set_cons_zero, List.set_cons_succ] at ha
              subst ha
              have gp := fp (after_of (j := 2) (k := 0) (by kernel_rfl) hd hjn hn)
              have gc := fc (after_of (j := 2) (k := 1) (by kernel_rfl) hd hjn hn)
              refine goes_ Try.func22 (by kernel_rfl) rfl #[.agg #[.int .u8 a0, .int .u8 a1, .int .u8 a2, .int .u8 a3, .int .u8 a4, .int .u8 a5, .int .u8 a6, .int .u8 a7], .slice A0 m c0] (by rfl) rfl rfl (by (try simp only [List.map_toArray, List.map_cons, List.map_nil]); first | done | rfl) ?_
              refine (HAFT.out wl hSl.1).mono ?_
              rintro e' w11 ⟨rfl, hb1⟩
              have hk1 := KeepW.of_below hb1
              refine ⟨_, rfl, ?_⟩
              exact hK.out _ w11 ⟨hSl.1.trans (hb1.mono hSl.1.size), hSl.2.trans hk1⟩ ⟨_, _, _, _, rfl, fun n1 => (bit_abs ((on_net d 2 1 (by decide)).symm.trans n1) (after_of (j := 2) (k := 1) (by kernel_rfl) hd hjn hn)).elim, fun h0 => (by obtain ⟨Ap', cp', e6, h6⟩ := (fp (after_of (j := 2) (k := 0) (by kernel_rfl) hd hjn hn)); exact ⟨Ap', cp', e6, h6.keep hk1⟩), fun h1 => (by obtain ⟨e6, h6⟩ := (fc (after_of (j := 2) (k := 1) (by kernel_rfl) hd hjn hn)); exact ⟨e6, h6.below hb1⟩), fun h2 => rfl, fun h3 => (by obtain ⟨q, e6, h6, h7⟩ := (fq ((on_ne d 2 3 (by decide)).symm.trans h3)); exact ⟨q, e6, hk1.2 _ _ _ _ h6 (by decide) (by decide) (by decide), h7⟩)⟩
            · intro d hd hjn hn xs wl hx hSl ⟨x0, x1, x2, x3, hxs, fa, fp, fc, ft, fq⟩ a' ha o ho K hK
              subst hxs
              obtain rfl := Option.some.inj (ho.symm.trans (rfl : _ = some _))
              simp only [putVs, Act.put, List.setIfInBounds_toArray, List.set_cons_zero, List.set_cons_succ] at ha
              subst ha
              have hb1 : Below wl.heap.size wl (wl.alloc (.cells #[.int .u8 0, .int .u8 0, .int .u8 0, .int .u8 0, .int .u8 0, .int .u8 0, .int .u8 0, .int .u8 0] 38)) := below_alloc (Below.refl _ _) _
              have hk1 := KeepW.of_below hb1
              refine value_ rfl rfl (v := .pointer (some ⟨wl.heap.size, 0, none⟩)) (w1 := wl.alloc (.cells #[.int .u8 0, .int .u8 0, .int .u8 0, .int .u8 0, .int .u8 0, .int .u8 0, .int .u8 0, .int .u8 0] 38)) (by first | (go_simp; done) | (go_simp; rfl)) ?_
              exact hK.out _ _ ⟨hSl.1.trans (hb1.mono hSl.1.size), hSl.2.trans hk1⟩ ⟨_, _, _, _, rfl, fun n1 => ⟨(fa ((on_net d 3 1 (by decide)).symm.trans n1)).1.below hb1, (fa ((on_net d 3 1 (by decide)).symm.trans n1)).2.below hb1⟩, fun h0 => (by obtain ⟨Ap', cp', e6, h6⟩ := (fp ((on_ne d 3 0 (by decide)).symm.trans h0)); exact ⟨Ap', cp', e6, h6.keep hk1⟩), fun h1 => (by obtain ⟨e6, h6⟩ := (fc ((on_ne d 3 1 (by decide)).symm.trans h1)); exact ⟨e6, h6.below hb1⟩), fun h2 => (ft ((on_ne d 3 2 (by decide)).symm.trans h2)), fun h3 => ⟨_, rfl, blk_new wl _, hSl.2.1⟩⟩
          case hfin =>
            intro xs wl hx hSl ⟨x0, x1, x2, x3, hxs, fa, fp, fc, ft, fq⟩ a' ha
            subst hxs
            simp only [putVs, Act.put, List.setIfInBounds_toArray, List.set_cons_zero, List.set_cons_succ] at ha
            subst ha
            have gp := fp (by decide)
            have gc := fc (by decide)
            have gt := ft (by decide)
            have gq := fq (by decide)
            clear fa fp fc ft fq
            obtain ⟨Ap, cp, rfl, hpl⟩ := gp
            obtain ⟨rfl, hcd⟩ := gc
            subst gt
            obtain ⟨q, rfl, hq, hwq⟩ := gq
            have hHeld := hSl
            clear hpl
            refine pure_ (i := 10) (N := some 11) (v := ?_) (a' := ?_) #[true, true, true, true, true, true, true, true, true, true, true, false] rfl rfl (by kernel_rfl) (fun _ _ _ h => h) (Or.inl ⟨by rfl, ?_⟩) ?_ ?_
            rotate_left
            · intro w'
              go_simp
              with_reducible rfl
            rotate_left
            · simp only [Act.put, List.setIfInBounds_toArray, List.set_cons_zero, List.set_cons_succ]
              rfl
            obtain ⟨w12, hw12⟩ : ∃ w12, w12 = wl.setRow q ((#[.int .u8 0, .int .u8 0, .int .u8 0, .int .u8 0, .int .u8 0, .int .u8 0, .int .u8 0, .int .u8 0] : Array Value).toList.take 0 ++ [Value.int .u8 n0, Value.int .u8 n1, Value.int .u8 n2, Value.int .u8 n3, Value.int .u8 n4, Value.int .u8 n5, Value.int .u8 n6, Value.int .u8 n7] ++ (#[.int .u8 0, .int .u8 0, .int .u8 0, .int .u8 0, .int .u8 0, .int .u8 0, .int .u8 0, .int .u8 0] : Array Value).toList.drop (0 + ([Value.int .u8 n0, Value.int .u8 n1, Value.int .u8 n2, Value.int .u8 n3, Value.int .u8 n4, Value.int .u8 n5, Value.int .u8 n6, Value.int .u8 n7] : List Value).length)).toArray := ⟨_, rfl⟩
            have hgr : wl.grownBy w12 (some q) := by rw [hw12]; exact setRow_grown wl q _
            have hq12 : w12.heap[q]? = some (.cells #[.int .u8 n0, .int .u8 n1, .int .u8 n2, .int .u8 n3, .int .u8 n4, .int .u8 n5, .int .u8 n6, .int .u8 n7] 38 (0, 0)) := by rw [hw12]; exact setRow_same hq
            have hs12 : Below W.heap.size W w12 ∧ KeepW w10 w12 := ⟨hSl.1.grown hgr hSl.1.size (fun i hi => by cases hi; exact Nat.le_trans HB10.out.size hwq), Nat.le_trans hSl.2.1 hgr.size, fun i cs t fr hi h1 h2 h3 => by have h4 := blk_lt hi; rw [hw12]; exact setRow_block (hSl.2.2 i cs t fr hi h1 h2 h3) (by omega)⟩
            refine one_ (i := 11) (N := none) #[true, true, true, true, true, true, true, true, true, true, true, true] rfl rfl (by kernel_rfl) (by decide) (fun K hK => ?_)
            refine skip_ rfl rfl (w1 := w12) (by rw [hw12]; exact exec_store (t := 38) (u := 38) (x := .tmp 12) (v := .tmp 69) (cs := [Value.int .u8 n0, Value.int .u8 n1, Value.int .u8 n2, Value.int .u8 n3, Value.int .u8 n4, Value.int .u8 n5, Value.int .u8 n6, Value.int .u8 n7]) rfl rfl rfl size38 hq (Nat.le_of_eq rfl) (by intro v hv; simp at hv; rcases hv with rfl | rfl | rfl | rfl | rfl | rfl | rfl | rfl <;> rfl)) ?_
            refine hK.out _ _ hs12 (fun hHeld => ?_)
            clear hK K 
            refine done_ (by kernel_rfl) ?_
            have HD12 := Aside0.mk (hcd.grown hgr (fun i hi => by cases hi; exact ⟨_, _, hq, by decide, by decide⟩))
            have HB12 := Aside0.mk hs12.1
            have HN12 := Aside0.mk hq12
            have HS12 := Aside0.mk (hs12.2.2 _ _ _ _ HS10.out (by decide) (by decide) (by decide))
            have HQ12 := Aside0.mk (hs12.2.2 _ _ _ _ HQ10.out (by decide) (by decide) (by decide))
            obtain ⟨d3, X, o1, o2, o3, o4, o5⟩ := HNX.out (sec_of HD12.out) HD12.out.secs
            have HO1' := Aside0.mk o1
            have HX := Aside0.mk (And.intro o2 (And.intro o3 (And.intro o4 o5)))
            have HX8 := Aside0.mk (show St X by rcases o3 with h | ⟨h, _⟩ <;> rw [h]; exact HN8.out; exact HFk.out.2.1)
            have HQNE := Aside0.mk (show gs ≠ q by have := blk_lt HS10.out; omega)
            have HQGE := Aside0.mk (show W.heap.size ≤ q from Nat.le_trans HB10.out.size hwq)
            have b5 := (blk_cell HQ12.out 2).trans (rfl : _ = some (Value.slice A2 kp.length c2))
            clear o1 o2 o3 o4 o5 hcd hgr hq hq12 hs12 hw12 hSl hHeld HDd hwq
            rcases HE.out with he | he
            · subst he
              go_upto_region 16 with fail
              go_upto_region 17 with (first
                | ((with_reducible refine gate_dst (N := 77) rfl ?_); refine Kd.R_lit Kd.bool w12.heap.size 4 ?hg (N := 77) ?hd (xs := ([] : List Bool)) (inner := []) (ok := fun _ => True) (okp := fun _ => True) ?hr ?hp (fun _ hk => hk) trivial (Below.refl _ _) (Nat.le_refl _) (by simp) ?_; (case hd => rfl); (case hg => rfl); (case hr => first | (go_simp; done) | (go_simp; rfl)); (case hp => exact (Reps.none _ _)); intro v13 w13 ho4 hb hg_ hnew_; clear hg_ hnew_; have HO13 := Aside0.mk ho4; have HB13 := Aside0.mk hb; have b6 := (blk_cell (blk_below HQ12.out hb) 2).trans (rfl : _ = some (Value.slice A2 kp.length c2)); clear hb ho4)
                | ((with_reducible refine gate_dst (N := 80) rfl ?_); at_builtin; refine Kd.R_append_rows Kd.bool (w0 := w12) w12.heap.size rfl (.tmp 77) (.tmp 79) 44 4 (.bool false) 1 rfl Try.underlying44 INF.out rfl (by decide) (by omega) v13 [] kp _ _ _ (fun _ => True) (fun _ => False) rfl rfl ?aO ?aR (fun _ _ h => h) (fun _ h => h.elim) ?aF ?aB ?aS ?aL ?_; (case aR => exact Kd.C_below (HKW.out w12 HB12.out) HB13.out); (case aB => exact HB13.out); (case aF => exact (fun _ _ => trivial)); (case aO => exact HO13.out); (case aS => exact HB13.out.size); (case aL => have h9 : kp.length ≤ R := HOA.out.keep; simp; omega); intro v14 w14 ho hb hg hat; obtain ⟨A14, c14, rfl⟩ := Kd.R_slice ho; rw [List.nil_append] at ho; have HO14 := Aside0.mk ho; have HB14 := Aside0.mk hb; clear ho hb hg hat)
                | (go_at_call 23; refine (crash_calls W.heap.size g d2 W w14 (HD12.out.below HB14.out) (HB12.out.trans (HB14.out.mono HB12.out.size)) (Nat.le_refl _) (by have := HCN.out; omega) A14 c14 kp (fun W' h1 _ => lies_bool HO14.out W' h1)).mono ?_; rw [HO1'.out]; rintro e w15 ⟨rfl, h1, h2, h3⟩; have HD15 := Aside0.mk h1; have HB15 := Aside0.mk h2; have HS15 := Aside0.mk (h3.2 _ _ _ _ (blk_below HS12.out HB14.out) (by decide) (by decide)); have HN15 := Aside0.mk (h3.2 _ _ _ _ (blk_below HN12.out HB14.out) (by decide) (by decide)); clear h1 h2 h3))
              clear b5
              go_wp2_with fail
              go_loopw [13] (fun x wr => ∃ (j : Nat) (d' : D), j ≤ tn ∧ j ≤ 3 ∧ x = .int .i64 j ∧ Aside0 (IsD W.heap.size wr g d') ∧ Aside0 (Below W.heap.size W wr) ∧ Aside0 (wr.heap[gs]? = some (.cells #[.int .u8 a0, .int .u8 a1, .int .u8 a2, .int .u8 a3, .int .u8 a4, .int .u8 a5, .int .u8 a6, .int .u8 a7] 38 (0, 0))) ∧ Aside0 (wr.heap[q]? = some (.cells #[.int .u8 n0, .int .u8 n1, .int .u8 n2, .int .u8 n3, .int .u8 n4, .int .u8 n5, .int .u8 n6, .int .u8 n7] 38 (0, 0))) ∧ Aside0 (Wh d' X ∧ d'.cnt ≤ d.cnt + 192 + 64 * j ∧ logF d'.fast = logF d3.fast)) (fun x _ => 3 - (intOf x).toNat)
              case atStart => exact ⟨0, d3, Nat.zero_le _, Nat.zero_le _, rfl, HD15, HB15, HS15, HN15, ⟨HX.out.1, HX.out.2.2.1, rfl⟩⟩
              case round =>
                obtain ⟨j, d', hj, hj3, rfl, HDj, HBj, HSj, HNj, HFj⟩ := hrel
                by_cases hjt : j < tn
                · have g1 : decide ((j : Int) < tn) = true := decide_eq_true (by omega)
                  by_cases hjt3 : j < 3
                  · have g2 : decide ((j : Int) < 3) = true := decide_eq_true (by omega)
                    obtain ⟨ad2, A3, c3, A4, c4, hA, hc0, hc1, hc2, hle0, hC0, hle2, hC2⟩ := act_at HT.out j hjt
                    subst hA
                    have hOA := HOT.out (t.getD j act0) (by rw [List.getD_eq_getElem?_getD, List.getElem?_eq_getElem (by rw [← HTN.out]; exact hjt)]; exact List.getElem_mem _)
                    obtain ⟨a, ha⟩ : ∃ a, a = t.getD j act0 := ⟨_, rfl⟩
                    rw [← ha] at hc0 hc1 hc2 hle0 hC0 hle2 hC2 hOA
                    have HAK2 := Aside0.mk (show ∀ w', Below W.heap.size W w' → w'.cell? ⟨(ad2.add (j * 3)).block, (ad2.add (j * 3)).off + 1, none⟩ = some (.int .i64 a.2.1) ∧ w'.cell? ⟨(ad2.add (j * 3)).block, (ad2.add (j * 3)).off + 2, none⟩ = some (.slice A4 a.2.2.length c4) from fun w' hb => ⟨cell_on hc1 hb, cell_on hc2 hb⟩)
                    have HKW2 := Aside0.mk (show ∀ w', Below W.heap.size W w' → Kd.C Kd.bool w' A4 a.2.2.length a.2.2 from fun w' hb => Kd.C_below hC2 hb)
                    obtain ⟨lp2, arm2, kp2⟩ := a
                    dsimp only at HAK2 HKW2
                    have HOA2 := Aside0.mk hOA
                    clear hOA ha hc0 hc1 hc2 hC0 hC2 hle0 hle2
                    have r1 := (HAK2.out wr HBj.out).1
                    go_upto_region 21 with (go_at_call 19; refine (arm_calls W.heap.size g d' arm2 HOA2.out.arm.2 W wr HDj.out HBj.out).mono ?_; rintro e w16 ⟨rfl, h1, h2, h3⟩; have HD16 := Aside0.mk h1; have HB16 := Aside0.mk h2; have HS16 := Aside0.mk (h3.2 _ _ _ _ HSj.out (by decide) (by decide)); have HN16 := Aside0.mk (h3.2 _ _ _ _ HNj.out (by decide) (by decide)); clear h1 h2 h3)
                    clear r1
                    have hcn6 : (armD d' arm2).cnt = d'.cnt := rfl
                    go_upto_region 22 with (go_at_call 17; refine (open_c W.heap.size g (armD d' arm2) W w16 HD16.out HB16.out (Nat.le_refl _) (by have := HCN.out.1; have := HFj.out.2.1; omega)).mono ?_; rintro e w17 ⟨v17, rfl, h1, h2, h3, _, _⟩; have HD17 := Aside0.mk h1; have HB17 := Aside0.mk h2; have HS17 := Aside0.mk (h3.2 _ _ _ _ HS16.out (by decide) (by decide)); have HN17 := Aside0.mk (h3.2 _ _ _ _ HN16.out (by decide) (by decide)); clear h1 h2 h3)
                    clear hcn6
                    obtain ⟨d5, d6, t1, t2, t3, t4, t5, t6⟩ := wh_twice HFj.out.1 arm2 kp2 HD17.out.secs (sec_of HD17.out)
                    rw [t1] at HD17
                    have HT3 := Aside0.mk t3
                    have HT4 := Aside0.mk (And.intro t4 (And.intro t5 t6))
                    have hcn5 := HFj.out.2.1
                    have r2 := (HAK2.out w17 HB17.out).2
                    clear t1 t3 t4 t5 t6
                    go_upto_region 19 with (first
                      | ((with_reducible refine gate_dst (N := 102) rfl ?_); refine Kd.R_lit Kd.bool w17.heap.size 4 ?hg (N := 102) ?hd (xs := ([] : List Bool)) (inner := []) (ok := fun _ => True) (okp := fun _ => True) ?hr ?hp (fun _ hk => hk) trivial (Below.refl _ _) (Nat.le_refl _) (by simp) ?_; (case hd => rfl); (case hg => rfl); (case hr => first | (go_simp; done) | (go_simp; rfl)); (case hp => exact (Reps.none _ _)); intro v13 w13 ho4 hb hg_ hnew_; clear hg_ hnew_; have HO13 := Aside0.mk ho4; have HB13 := Aside0.mk hb; have r3 := (HAK2.out w13 (HB17.out.trans (hb.mono HB17.out.size))).2; clear hb ho4)
                      | ((with_reducible refine gate_dst (N := 108) rfl ?_); at_builtin; refine Kd.R_append_rows Kd.bool (w0 := w17) w17.heap.size rfl (.tmp 102) (.tmp 107) 44 4 (.bool false) 1 rfl Try.underlying44 INF.out rfl (by decide) (by omega) v13 [] kp2 _ _ _ (fun _ => True) (fun _ => False) rfl rfl ?aO ?aR (fun _ _ h => h) (fun _ h => h.elim) ?aF ?aB ?aS ?aL ?_; (case aR => exact Kd.C_below (HKW2.out w17 HB17.out) HB13.out); (case aB => exact HB13.out); (case aF => exact (fun _ _ => trivial)); (case aO => exact HO13.out); (case aS => exact HB13.out.size); (case aL => have h9 : kp2.length ≤ R := HOA2.out.keep; simp; omega); intro v14 w14 ho hb hg hat; obtain ⟨A14, c14, rfl⟩ := Kd.R_slice ho; rw [List.nil_append] at ho; have HO14 := Aside0.mk ho; have HB14 := Aside0.mk hb; clear ho hb hg hat)
                      | (go_at_call 23; refine (crash_calls W.heap.size g d5 W w14 (HD17.out.below HB14.out) (HB17.out.trans (HB14.out.mono HB17.out.size)) (Nat.le_refl _) (by have := HCN.out; omega) A14 c14 kp2 (fun W' h1 _ => lies_bool HO14.out W' h1)).mono ?_; rw [HT3.out]; rintro e w15 ⟨rfl, h1, h2, h3⟩; have HD15 := Aside0.mk h1; have HB15 := Aside0.mk h2; have HS15 := Aside0.mk (h3.2 _ _ _ _ (blk_below HS17.out HB14.out) (by decide) (by decide)); have HN15 := Aside0.mk (h3.2 _ _ _ _ (blk_below HN17.out HB14.out) (by decide) (by decide)); clear h1 h2 h3))
                    go_wp2
                    go_roundw
                    case rel => exact ⟨j + 1, d6, by omega, by omega, by go_num, HD15, HB15, HS15, HN15, ⟨HT4.out.1, by have := HT4.out.2.1; omega, HT4.out.2.2.trans HFj.out.2.2⟩⟩
                    case measure => simp [intOf]; omega
                  · obtain rfl : j = 3 := by omega
                    have g2 : decide (((3 : Nat) : Int) < 3) = false := by decide
                    obtain ⟨d7, u1, u2, u3, u4, u5, u6, u7⟩ := wh_open HFj.out.1
                    have HU1 := Aside0.mk u1
                    have HU := Aside0.mk (And.intro u2 (And.intro u3 (And.intro u4 (And.intro u5 (And.intro u6 u7)))))
                    have hcn5 := HFj.out.2.1
                    clear u1 u2 u3 u4 u5 u6 u7
                    go_upto_region 24 with (go_at_call 17; refine (open_c W.heap.size g d' W wr HDj.out HBj.out (Nat.le_refl _) (by have := HCN.out.1; omega)).mono ?_; rintro e w18 ⟨v18, rfl, h1, h2, h3, _, h5⟩; rw [HU1.out] at h1 h5 ⊢; obtain ⟨gv, rfl, hg, hw⟩ := h5 rfl; have HD18 := Aside0.mk h1; have HB18 := Aside0.mk h2; have HW18 := Aside0.mk hw; have HS18 := Aside0.mk (h3.2 _ _ _ _ HSj.out (by decide) (by decide)); have HN18 := Aside0.mk (h3.2 _ _ _ _ HNj.out (by decide) (by decide)); clear h1 h2 h3 h5 hg hw)
                    have HWH := Aside0.mk (wh_open2 HFj.out.1 HU.out.1 HU.out.2.1 HU.out.2.2.1 HU.out.2.2.2.1 (sec_of HD18.out))
                    have hsq : seqTo d7 64 = seqTo d3 64 := HWH.out.2.trans (wh_seq HX.out.1 HFj.out.1 HFj.out.2.2)
                    have HNEW := Aside0.mk (show d7.cnt ≤ 448 * (k + 1) ∧ seqTo d7 64 ≤ ((k + 1 : Nat) : Int) from ⟨by have := HCN.out.1; have := HU.out.2.2.2.2.1; omega, by rw [hsq]; exact HX.out.2.2.2⟩)
                    clear hsq hcn5
                    have HIN := Aside0.mk (show Calls Try.prog 18 #[.agg #[.int .u8 n0, .int .u8 n1, .int .u8 n2, .int .u8 n3, .int .u8 n4, .int .u8 n5, .int .u8 n6, .int .u8 n7], .pointer (some ⟨gv, 0, none⟩)] w18 _ from by
                      have h := is_calls W.heap.size gv g _ d7 nx X HN8.out HX8.out W w18 HW18.out HD18.out HB18.out (Nat.le_refl _) (by have := HNEW.out.1; omega) HU.out.2.2.2.2.2
                      rw [HNG.out] at h
                      exact h)
                    go_upto_region 26 with fail
                    have cn0 := (blk_cell HN18.out 0).trans (rfl : _ = some (Value.int .u8 n0))
                    have cn1 := (blk_cell HN18.out 1).trans (rfl : _ = some (Value.int .u8 n1))
                    have cn2 := (blk_cell HN18.out 2).trans (rfl : _ = some (Value.int .u8 n2))
                    have cn3 := (blk_cell HN18.out 3).trans (rfl : _ = some (Value.int .u8 n3))
                    have cn4 := (blk_cell HN18.out 4).trans (rfl : _ = some (Value.int .u8 n4))
                    have cn5 := (blk_cell HN18.out 5).trans (rfl : _ = some (Value.int .u8 n5))
                    have cn6 := (blk_cell HN18.out 6).trans (rfl : _ = some (Value.int .u8 n6))
                    have cn7 := (blk_cell HN18.out 7).trans (rfl : _ = some (Value.int .u8 n7))
                    by_cases hX : nx = X
                    · go_upto_region 27 with (go_at_call 18; refine HIN.out.mono ?_; rintro e w19 ⟨r9, rfl, h1, h2, h3, h4, h5, h6⟩; obtain rfl := h2 hX; have HD19 := Aside0.mk h3; have HB19 := Aside0.mk h5; have HS19 := Aside0.mk (h6.2 _ _ _ _ HS18.out (by decide) (by decide)); have HN19 := Aside0.mk (h6.2 _ _ _ _ HN18.out (by decide) (by decide)); clear h1 h2 h3 h4 h5 h6)
                      clear cn0 cn1 cn2 cn3 cn4 cn5 cn6 cn7
                      go_upto_region 5 with (first
                        | ((with_reducible refine gate_dst (N := 124) rfl ?_); refine wl_load 38 (.tmp 12) rfl rfl ⟨q, 0, none⟩ [Value.int .u8 n0, Value.int .u8 n1, Value.int .u8 n2, Value.int .u8 n3, Value.int .u8 n4, Value.int .u8 n5, Value.int .u8 n6, Value.int .u8 n7] rfl _ Try.underlying38 rfl size38 (cells_of HN19.out) ?_)
                        | ((with_reducible refine gate_store (t := 38) (p := 6) rfl ?_); refine wl_store 38 (.tmp 6) (.tmp 124) rfl rfl rfl gs 0 [Value.int .u8 n0, Value.int .u8 n1, Value.int .u8 n2, Value.int .u8 n3, Value.int .u8 n4, Value.int .u8 n5, Value.int .u8 n6, Value.int .u8 n7] rfl rfl _ 38 size38 HS19.out (Nat.le_of_eq rfl) (by intro v hv; simp at hv; rcases hv with rfl | rfl | rfl | rfl | rfl | rfl | rfl | rfl <;> rfl) ?_; intro w20 hb8 hgr; have HS20 := Aside0.mk (show w20.heap[gs]? = some (.cells #[.int .u8 n0, .int .u8 n1, .int .u8 n2, .int .u8 n3, .int .u8 n4, .int .u8 n5, .int .u8 n6, .int .u8 n7] 38 (0, 0)) from hb8); have HD20 := Aside0.mk (HD19.out.grown hgr (fun i hi => by cases hi; exact ⟨_, _, HS19.out, by decide, by decide⟩)); have HB20 := Aside0.mk (HB19.out.grown hgr HB19.out.size (fun i hi => by cases hi; exact HGS.out)); clear hb8 hgr))
                      go_wp2
                      go_roundw
                      case rel => exact ⟨k + 1, d7, nx, by omega, by omega, by go_num, HD20, HB20, ⟨by rw [HNG.out]; exact HS20.out⟩, ⟨by rw [hX]; exact HWH.out.1, HN8.out, HNEW.out.1, HNEW.out.2⟩⟩
                      case measure => simp [intOf]; omega
                    · exfalso
                      rcases HX.out.2.1 with h | ⟨_, h⟩
                      · exact hX h.symm
                      · exact h rfl
                · obtain rfl : j = tn := by omega
                  have g1 : decide ((j : Int) < j) = false := decide_eq_false (by omega)
                  obtain ⟨d7, u1, u2, u3, u4, u5, u6, u7⟩ := wh_open HFj.out.1
                  have HU1 := Aside0.mk u1
                  have HU := Aside0.mk (And.intro u2 (And.intro u3 (And.intro u4 (And.intro u5 (And.intro u6 u7)))))
                  have hcn5 := HFj.out.2.1
                  clear u1 u2 u3 u4 u5 u6 u7
                  go_upto_region 24 with (go_at_call 17; refine (open_c W.heap.size g d' W wr HDj.out HBj.out (Nat.le_refl _) (by have := HCN.out.1; omega)).mono ?_; rintro e w18 ⟨v18, rfl, h1, h2, h3, _, h5⟩; rw [HU1.out] at h1 h5 ⊢; obtain ⟨gv, rfl, hg, hw⟩ := h5 rfl; have HD18 := Aside0.mk h1; have HB18 := Aside0.mk h2; have HW18 := Aside0.mk hw; have HS18 := Aside0.mk (h3.2 _ _ _ _ HSj.out (by decide) (by decide)); have HN18 := Aside0.mk (h3.2 _ _ _ _ HNj.out (by decide) (by decide)); clear h1 h2 h3 h5 hg hw)
                  have HWH := Aside0.mk (wh_open2 HFj.out.1 HU.out.1 HU.out.2.1 HU.out.2.2.1 HU.out.2.2.2.1 (sec_of HD18.out))
                  have hsq : seqTo d7 64 = seqTo d3 64 := HWH.out.2.trans (wh_seq HX.out.1 HFj.out.1 HFj.out.2.2)
                  have HNEW := Aside0.mk (show d7.cnt ≤ 448 * (k + 1) ∧ seqTo d7 64 ≤ ((k + 1 : Nat) : Int) from ⟨by have := HCN.out.1; have := HU.out.2.2.2.2.1; omega, by rw [hsq]; exact HX.out.2.2.2⟩)
                  clear hsq hcn5
                  have HIN := Aside0.mk (show Calls Try.prog 18 #[.agg #[.int .u8 n0, .int .u8 n1, .int .u8 n2, .int .u8 n3, .int .u8 n4, .int .u8 n5, .int .u8 n6, .int .u8 n7], .pointer (some ⟨gv, 0, none⟩)] w18 _ from by
                    have h := is_calls W.heap.size gv g _ d7 nx X HN8.out HX8.out W w18 HW18.out HD18.out HB18.out (Nat.le_refl _) (by have := HNEW.out.1; omega) HU.out.2.2.2.2.2
                    rw [HNG.out] at h
                    exact h)
                  go_upto_region 26 with fail
                  have cn0 := (blk_cell HN18.out 0).trans (rfl : _ = some (Value.int .u8 n0))
                  have cn1 := (blk_cell HN18.out 1).trans (rfl : _ = some (Value.int .u8 n1))
                  have cn2 := (blk_cell HN18.out 2).trans (rfl : _ = some (Value.int .u8 n2))
                  have cn3 := (blk_cell HN18.out 3).trans (rfl : _ = some (Value.int .u8 n3))
                  have cn4 := (blk_cell HN18.out 4).trans (rfl : _ = some (Value.int .u8 n4))
                  have cn5 := (blk_cell HN18.out 5).trans (rfl : _ = some (Value.int .u8 n5))
                  have cn6 := (blk_cell HN18.out 6).trans (rfl : _ = some (Value.int .u8 n6))
                  have cn7 := (blk_cell HN18.out 7).trans (rfl : _ = some (Value.int .u8 n7))
                  by_cases hX : nx = X
                  · go_upto_region 27 with (go_at_call 18; refine HIN.out.mono ?_; rintro e w19 ⟨r9, rfl, h1, h2, h3, h4, h5, h6⟩; obtain rfl := h2 hX; have HD19 := Aside0.mk h3; have HB19 := Aside0.mk h5; have HS19 := Aside0.mk (h6.2 _ _ _ _ HS18.out (by decide) (by decide)); have HN19 := Aside0.mk (h6.2 _ _ _ _ HN18.out (by decide) (by decide)); clear h1 h2 h3 h4 h5 h6)
                    clear cn0 cn1 cn2 cn3 cn4 cn5 cn6 cn7
                    go_upto_region 5 with (first
                      | ((with_reducible refine gate_dst (N := 124) rfl ?_); refine wl_load 38 (.tmp 12) rfl rfl ⟨q, 0, none⟩ [Value.int .u8 n0, Value.int .u8 n1, Value.int .u8 n2, Value.int .u8 n3, Value.int .u8 n4, Value.int .u8 n5, Value.int .u8 n6, Value.int .u8 n7] rfl _ Try.underlying38 rfl size38 (cells_of HN19.out) ?_)
                      | ((with_reducible refine gate_store (t := 38) (p := 6) rfl ?_); refine wl_store 38 (.tmp 6) (.tmp 124) rfl rfl rfl gs 0 [Value.int .u8 n0, Value.int .u8 n1, Value.int .u8 n2, Value.int .u8 n3, Value.int .u8 n4, Value.int .u8 n5, Value.int .u8 n6, Value.int .u8 n7] rfl rfl _ 38 size38 HS19.out (Nat.le_of_eq rfl) (by intro v hv; simp at hv; rcases hv with rfl | rfl | rfl | rfl | rfl | rfl | rfl | rfl <;> rfl) ?_; intro w20 hb8 hgr; have HS20 := Aside0.mk (show w20.heap[gs]? = some (.cells #[.int .u8 n0, .int .u8 n1, .int .u8 n2, .int .u8 n3, .int .u8 n4, .int .u8 n5, .int .u8 n6, .int .u8 n7] 38 (0, 0)) from hb8); have HD20 := Aside0.mk (HD19.out.grown hgr (fun i hi => by cases hi; exact ⟨_, _, HS19.out, by decide, by decide⟩)); have HB20 := Aside0.mk (HB19.out.grown hgr HB19.out.size (fun i hi => by cases hi; exact HGS.out)); clear hb8 hgr))
                    go_wp2
                    go_roundw
                    case rel => exact ⟨k + 1, d7, nx, by omega, by omega, by go_num, HD20, HB20, ⟨by rw [HNG.out]; exact HS20.out⟩, ⟨by rw [hX]; exact HWH.out.1, HN8.out, HNEW.out.1, HNEW.out.2⟩⟩
                    case measure => simp [intOf]; omega
                  · exfalso
                    rcases HX.out.2.1 with h | ⟨_, h⟩
                    · exact hX h.symm
                    · exact h rfl
            · subst he
              go_upto_region 16 with fail
              go_upto_region 17 with (first
                | ((with_reducible refine gate_dst (N := 77) rfl ?_); refine Kd.R_lit Kd.bool w12.heap.size 4 ?hg (N := 77) ?hd (xs := ([] : List Bool)) (inner := []) (ok := fun _ => True) (okp := fun _ => True) ?hr ?hp (fun _ hk => hk) trivial (Below.refl _ _) (Nat.le_refl _) (by simp) ?_; (case hd => rfl); (case hg => rfl); (case hr => first | (go_simp; done) | (go_simp; rfl)); (case hp => exact (Reps.none _ _)); intro v13 w13 ho4 hb hg_ hnew_; clear hg_ hnew_; have HO13 := Aside0.mk ho4; have HB13 := Aside0.mk hb; have b6 := (blk_cell (blk_below HQ12.out hb) 2).trans (rfl : _ = some (Value.slice A2 kp.length c2)); clear hb ho4)
                | ((with_reducible refine gate_dst (N := 80) rfl ?_); at_builtin; refine Kd.R_append_rows Kd.bool (w0 := w12) w12.heap.size rfl (.tmp 77) (.tmp 79) 44 4 (.bool false) 1 rfl Try.underlying44 INF.out rfl (by decide) (by omega) v13 [] kp _ _ _ (fun _ => True) (fun _ => False) rfl rfl ?aO ?aR (fun _ _ h => h) (fun _ h => h.elim) ?aF ?aB ?aS ?aL ?_; (case aR => exact Kd.C_below (HKW.out w12 HB12.out) HB13.out); (case aB => exact HB13.out); (case aF => exact (fun _ _ => trivial)); (case aO => exact HO13.out); (case aS => exact HB13.out.size); (case aL => have h9 : kp.length ≤ R := HOA.out.keep; simp; omega); intro v14 w14 ho hb hg hat; obtain ⟨A14, c14, rfl⟩ := Kd.R_slice ho; rw [List.nil_append] at ho; have HO14 := Aside0.mk ho; have HB14 := Aside0.mk hb; clear ho hb hg hat)
                | (go_at_call 23; refine (crash_calls W.heap.size g d2 W w14 (HD12.out.below HB14.out) (HB12.out.trans (HB14.out.mono HB12.out.size)) (Nat.le_refl _) (by have := HCN.out; omega) A14 c14 kp (fun W' h1 _ => lies_bool HO14.out W' h1)).mono ?_; rw [HO1'.out]; rintro e w15 ⟨rfl, h1, h2, h3⟩; have HD15 := Aside0.mk h1; have HB15 := Aside0.mk h2; have HS15 := Aside0.mk (h3.2 _ _ _ _ (blk_below HS12.out HB14.out) (by decide) (by decide)); have HN15 := Aside0.mk (h3.2 _ _ _ _ (blk_below HN12.out HB14.out) (by decide) (by decide)); clear h1 h2 h3))
              clear b5
              go_wp2_with fail
              go_loopw [13] (fun x wr => ∃ (j : Nat) (d' : D), j ≤ tn ∧ j ≤ 3 ∧ x = .int .i64 j ∧ Aside0 (IsD W.heap.size wr g d') ∧ Aside0 (Below W.heap.size W wr) ∧ Aside0 (wr.heap[gs]? = some (.cells #[.int .u8 a0, .int .u8 a1, .int .u8 a2, .int .u8 a3, .int .u8 a4, .int .u8 a5, .int .u8 a6, .int .u8 a7] 38 (0, 0))) ∧ Aside0 (wr.heap[q]? = some (.cells #[.int .u8 n0, .int .u8 n1, .int .u8 n2, .int .u8 n3, .int .u8 n4, .int .u8 n5, .int .u8 n6, .int .u8 n7] 38 (0, 0))) ∧ Aside0 (Wh d' X ∧ d'.cnt ≤ d.cnt + 192 + 64 * j ∧ logF d'.fast = logF d3.fast)) (fun x _ => 3 - (intOf x).toNat)
              case atStart => exact ⟨0, d3, Nat.zero_le _, Nat.zero_le _, rfl, HD15, HB15, HS15, HN15, ⟨HX.out.1, HX.out.2.2.1, rfl⟩⟩
              case round =>
                obtain ⟨j, d', hj, hj3, rfl, HDj, HBj, HSj, HNj, HFj⟩ := hrel
                by_cases hjt : j < tn
                · have g1 : decide ((j : Int) < tn) = true := decide_eq_true (by omega)
                  by_cases hjt3 : j < 3
                  · have g2 : decide ((j : Int) < 3) = true := decide_eq_true (by omega)
                    obtain ⟨ad2, A3, c3, A4, c4, hA, hc0, hc1, hc2, hle0, hC0, hle2, hC2⟩ := act_at HT.out j hjt
                    subst hA
                    have hOA := HOT.out (t.getD j act0) (by rw [List.getD_eq_getElem?_getD, List.getElem?_eq_getElem (by rw [← HTN.out]; exact hjt)]; exact List.getElem_mem _)
                    obtain ⟨a, ha⟩ : ∃ a, a = t.getD j act0 := ⟨_, rfl⟩
                    rw [← ha] at hc0 hc1 hc2 hle0 hC0 hle2 hC2 hOA
                    have HAK2 := Aside0.mk (show ∀ w', Below W.heap.size W w' → w'.cell? ⟨(ad2.add (j * 3)).block, (ad2.add (j * 3)).off + 1, none⟩ = some (.int .i64 a.2.1) ∧ w'.cell? ⟨(ad2.add (j * 3)).block, (ad2.add (j * 3)).off + 2, none⟩ = some (.slice A4 a.2.2.length c4) from fun w' hb => ⟨cell_on hc1 hb, cell_on hc2 hb⟩)
                    have HKW2 := Aside0.mk (show ∀ w', Below W.heap.size W w' → Kd.C Kd.bool w' A4 a.2.2.length a.2.2 from fun w' hb => Kd.C_below hC2 hb)
                    obtain ⟨lp2, arm2, kp2⟩ := a
                    dsimp only at HAK2 HKW2
                    have HOA2 := Aside0.mk hOA
                    clear hOA ha hc0 hc1 hc2 hC0 hC2 hle0 hle2
                    have r1 := (HAK2.out wr HBj.out).1
                    go_upto_region 21 with (go_at_call 19; refine (arm_calls W.heap.size g d' arm2 HOA2.out.arm.2 W wr HDj.out HBj.out).mono ?_; rintro e w16 ⟨rfl, h1, h2, h3⟩; have HD16 := Aside0.mk h1; have HB16 := Aside0.mk h2; have HS16 := Aside0.mk (h3.2 _ _ _ _ HSj.out (by decide) (by decide)); have HN16 := Aside0.mk (h3.2 _ _ _ _ HNj.out (by decide) (by decide)); clear h1 h2 h3)
                    clear r1
                    have hcn6 : (armD d' arm2).cnt = d'.cnt := rfl
                    go_upto_region 22 with (go_at_call 17; refine (open_c W.heap.size g (armD d' arm2) W w16 HD16.out HB16.out (Nat.le_refl _) (by have := HCN.out.1; have := HFj.out.2.1; omega)).mono ?_; rintro e w17 ⟨v17, rfl, h1, h2, h3, _, _⟩; have HD17 := Aside0.mk h1; have HB17 := Aside0.mk h2; have HS17 := Aside0.mk (h3.2 _ _ _ _ HS16.out (by decide) (by decide)); have HN17 := Aside0.mk (h3.2 _ _ _ _ HN16.out (by decide) (by decide)); clear h1 h2 h3)
                    clear hcn6
                    obtain ⟨d5, d6, t1, t2, t3, t4, t5, t6⟩ := wh_twice HFj.out.1 arm2 kp2 HD17.out.secs (sec_of HD17.out)
                    rw [t1] at HD17
                    have HT3 := Aside0.mk t3
                    have HT4 := Aside0.mk (And.intro t4 (And.intro t5 t6))
                    have hcn5 := HFj.out.2.1
                    have r2 := (HAK2.out w17 HB17.out).2
                    clear t1 t3 t4 t5 t6
                    go_upto_region 19 with (first
                      | ((with_reducible refine gate_dst (N := 102) rfl ?_); refine Kd.R_lit Kd.bool w17.heap.size 4 ?hg (N := 102) ?hd (xs := ([] : List Bool)) (inner := []) (ok := fun _ => True) (okp := fun _ => True) ?hr ?hp (fun _ hk => hk) trivial (Below.refl _ _) (Nat.le_refl _) (by simp) ?_; (case hd => rfl); (case hg => rfl); (case hr => first | (go_simp; done) | (go_simp; rfl)); (case hp => exact (Reps.none _ _)); intro v13 w13 ho4 hb hg_ hnew_; clear hg_ hnew_; have HO13 := Aside0.mk ho4; have HB13 := Aside0.mk hb; have r3 := (HAK2.out w13 (HB17.out.trans (hb.mono HB17.out.size))).2; clear hb ho4)
                      | ((with_reducible refine gate_dst (N := 108) rfl ?_); at_builtin; refine Kd.R_append_rows Kd.bool (w0 := w17) w17.heap.size rfl (.tmp 102) (.tmp 107) 44 4 (.bool false) 1 rfl Try.underlying44 INF.out rfl (by decide) (by omega) v13 [] kp2 _ _ _ (fun _ => True) (fun _ => False) rfl rfl ?aO ?aR (fun _ _ h => h) (fun _ h => h.elim) ?aF ?aB ?aS ?aL ?_; (case aR => exact Kd.C_below (HKW2.out w17 HB17.out) HB13.out); (case aB => exact HB13.out); (case aF => exact (fun _ _ => trivial)); (case aO => exact HO13.out); (case aS => exact HB13.out.size); (case aL => have h9 : kp2.length ≤ R := HOA2.out.keep; simp; omega); intro v14 w14 ho hb hg hat; obtain ⟨A14, c14, rfl⟩ := Kd.R_slice ho; rw [List.nil_append] at ho; have HO14 := Aside0.mk ho; have HB14 := Aside0.mk hb; clear ho hb hg hat)
                      | (go_at_call 23; refine (crash_calls W.heap.size g d5 W w14 (HD17.out.below HB14.out) (HB17.out.trans (HB14.out.mono HB17.out.size)) (Nat.le_refl _) (by have := HCN.out; omega) A14 c14 kp2 (fun W' h1 _ => lies_bool HO14.out W' h1)).mono ?_; rw [HT3.out]; rintro e w15 ⟨rfl, h1, h2, h3⟩; have HD15 := Aside0.mk h1; have HB15 := Aside0.mk h2; have HS15 := Aside0.mk (h3.2 _ _ _ _ (blk_below HS17.out HB14.out) (by decide) (by decide)); have HN15 := Aside0.mk (h3.2 _ _ _ _ (blk_below HN17.out HB14.out) (by decide) (by decide)); clear h1 h2 h3))
                    go_wp2
                    go_roundw
                    case rel => exact ⟨j + 1, d6, by omega, by omega, by go_num, HD15, HB15, HS15, HN15, ⟨HT4.out.1, by have := HT4.out.2.1; omega, HT4.out.2.2.trans HFj.out.2.2⟩⟩
                    case measure => simp [intOf]; omega
                  · obtain rfl : j = 3 := by omega
                    have g2 : decide (((3 : Nat) : Int) < 3) = false := by decide
                    obtain ⟨d7, u1, u2, u3, u4, u5, u6, u7⟩ := wh_open HFj.out.1
                    have HU1 := Aside0.mk u1
                    have HU := Aside0.mk (And.intro u2 (And.intro u3 (And.intro u4 (And.intro u5 (And.intro u6 u7)))))
                    have hcn5 := HFj.out.2.1
                    clear u1 u2 u3 u4 u5 u6 u7
                    go_upto_region 24 with (go_at_call 17; refine (open_c W.heap.size g d' W wr HDj.out HBj.out (Nat.le_refl _) (by have := HCN.out.1; omega)).mono ?_; rintro e w18 ⟨v18, rfl, h1, h2, h3, _, h5⟩; rw [HU1.out] at h1 h5 ⊢; obtain ⟨gv, rfl, hg, hw⟩ := h5 rfl; have HD18 := Aside0.mk h1; have HB18 := Aside0.mk h2; have HW18 := Aside0.mk hw; have HS18 := Aside0.mk (h3.2 _ _ _ _ HSj.out (by decide) (by decide)); have HN18 := Aside0.mk (h3.2 _ _ _ _ HNj.out (by decide) (by decide)); clear h1 h2 h3 h5 hg hw)
                    have HWH := Aside0.mk (wh_open2 HFj.out.1 HU.out.1 HU.out.2.1 HU.out.2.2.1 HU.out.2.2.2.1 (sec_of HD18.out))
                    have hsq : seqTo d7 64 = seqTo d3 64 := HWH.out.2.trans (wh_seq HX.out.1 HFj.out.1 HFj.out.2.2)
                    have HNEW := Aside0.mk (show d7.cnt ≤ 448 * (k + 1) ∧ seqTo d7 64 ≤ ((k + 1 : Nat) : Int) from ⟨by have := HCN.out.1; have := HU.out.2.2.2.2.1; omega, by rw [hsq]; exact HX.out.2.2.2⟩)
                    clear hsq hcn5
                    have HIN := Aside0.mk (show Calls Try.prog 18 #[.agg #[.int .u8 n0, .int .u8 n1, .int .u8 n2, .int .u8 n3, .int .u8 n4, .int .u8 n5, .int .u8 n6, .int .u8 n7], .pointer (some ⟨gv, 0, none⟩)] w18 _ from by
                      have h := is_calls W.heap.size gv g _ d7 nx X HN8.out HX8.out W w18 HW18.out HD18.out HB18.out (Nat.le_refl _) (by have := HNEW.out.1; omega) HU.out.2.2.2.2.2
                      rw [HNG.out] at h
                      exact h)
                    go_upto_region 26 with fail
                    have cn0 := (blk_cell HN18.out 0).trans (rfl : _ = some (Value.int .u8 n0))
                    have cn1 := (blk_cell HN18.out 1).trans (rfl : _ = some (Value.int .u8 n1))
                    have cn2 := (blk_cell HN18.out 2).trans (rfl : _ = some (Value.int .u8 n2))
                    have cn3 := (blk_cell HN18.out 3).trans (rfl : _ = some (Value.int .u8 n3))
                    have cn4 := (blk_cell HN18.out 4).trans (rfl : _ = some (Value.int .u8 n4))
                    have cn5 := (blk_cell HN18.out 5).trans (rfl : _ = some (Value.int .u8 n5))
                    have cn6 := (blk_cell HN18.out 6).trans (rfl : _ = some (Value.int .u8 n6))
                    have cn7 := (blk_cell HN18.out 7).trans (rfl : _ = some (Value.int .u8 n7))
                    by_cases hX : nx = X
                    · go_upto_region 27 with (go_at_call 18; refine HIN.out.mono ?_; rintro e w19 ⟨r9, rfl, h1, h2, h3, h4, h5, h6⟩; obtain rfl := h2 hX; have HD19 := Aside0.mk h3; have HB19 := Aside0.mk h5; have HS19 := Aside0.mk (h6.2 _ _ _ _ HS18.out (by decide) (by decide)); have HN19 := Aside0.mk (h6.2 _ _ _ _ HN18.out (by decide) (by decide)); clear h1 h2 h3 h4 h5 h6)
                      clear cn0 cn1 cn2 cn3 cn4 cn5 cn6 cn7
                      go_upto_region 5 with (first
                        | ((with_reducible refine gate_dst (N := 124) rfl ?_); refine wl_load 38 (.tmp 12) rfl rfl ⟨q, 0, none⟩ [Value.int .u8 n0, Value.int .u8 n1, Value.int .u8 n2, Value.int .u8 n3, Value.int .u8 n4, Value.int .u8 n5, Value.int .u8 n6, Value.int .u8 n7] rfl _ Try.underlying38 rfl size38 (cells_of HN19.out) ?_)
                        | ((with_reducible refine gate_store (t := 38) (p := 6) rfl ?_); refine wl_store 38 (.tmp 6) (.tmp 124) rfl rfl rfl gs 0 [Value.int .u8 n0, Value.int .u8 n1, Value.int .u8 n2, Value.int .u8 n3, Value.int .u8 n4, Value.int .u8 n5, Value.int .u8 n6, Value.int .u8 n7] rfl rfl _ 38 size38 HS19.out (Nat.le_of_eq rfl) (by intro v hv; simp at hv; rcases hv with rfl | rfl | rfl | rfl | rfl | rfl | rfl | rfl <;> rfl) ?_; intro w20 hb8 hgr; have HS20 := Aside0.mk (show w20.heap[gs]? = some (.cells #[.int .u8 n0, .int .u8 n1, .int .u8 n2, .int .u8 n3, .int .u8 n4, .int .u8 n5, .int .u8 n6, .int .u8 n7] 38 (0, 0)) from hb8); have HD20 := Aside0.mk (HD19.out.grown hgr (fun i hi => by cases hi; exact ⟨_, _, HS19.out, by decide, by decide⟩)); have HB20 := Aside0.mk (HB19.out.grown hgr HB19.out.size (fun i hi => by cases hi; exact HGS.out)); clear hb8 hgr))
                      go_wp2
                      go_roundw
                      case rel => exact ⟨k + 1, d7, nx, by omega, by omega, by go_num, HD20, HB20, ⟨by rw [HNG.out]; exact HS20.out⟩, ⟨by rw [hX]; exact HWH.out.1, HN8.out, HNEW.out.1, HNEW.out.2⟩⟩
                      case measure => simp [intOf]; omega
                    · obtain rfl : X = st := (HX.out.2.1.resolve_left (fun h => hX h.symm)).1
                      go_upto_region 28 with (go_at_call 18; refine HIN.out.mono ?_; rintro e w19 ⟨r9, rfl, h1, h2, h3, h4, h5, h6⟩; obtain rfl : r9 = false := Bool.eq_false_iff.2 (fun h => hX (h1 h)); have HD19 := Aside0.mk h3; have HW19 := Aside0.mk h4; have HB19 := Aside0.mk h5; have HS19 := Aside0.mk (h6.2 _ _ _ _ HS18.out (by decide) (by decide)); clear h1 h2 h3 h4 h5 h6)
                      clear cn0 cn1 cn2 cn3 cn4 cn5 cn6 cn7
                      have ca0 := (blk_cell HS19.out 0).trans (rfl : _ = some (Value.int .u8 a0))
                      have ca1 := (blk_cell HS19.out 1).trans (rfl : _ = some (Value.int .u8 a1))
                      have ca2 := (blk_cell HS19.out 2).trans (rfl : _ = some (Value.int .u8 a2))
                      have ca3 := (blk_cell HS19.out 3).trans (rfl : _ = some (Value.int .u8 a3))
                      have ca4 := (blk_cell HS19.out 4).trans (rfl : _ = some (Value.int .u8 a4))
                      have ca5 := (blk_cell HS19.out 5).trans (rfl : _ = some (Value.int .u8 a5))
                      have ca6 := (blk_cell HS19.out 6).trans (rfl : _ = some (Value.int .u8 a6))
                      have ca7 := (blk_cell HS19.out 7).trans (rfl : _ = some (Value.int .u8 a7))
                      have HIS2 := Aside0.mk (show Calls Try.prog 18 #[.agg #[.int .u8 a0, .int .u8 a1, .int .u8 a2, .int .u8 a3, .int .u8 a4, .int .u8 a5, .int .u8 a6, .int .u8 a7], .pointer (some ⟨gv, 0, none⟩)] w19 _ from by
                        have h := is_calls W.heap.size gv g _ d7 X X HX8.out HX8.out W w19 HW19.out HD19.out HB19.out (Nat.le_refl _) (by have := HNEW.out.1; omega) HU.out.2.2.2.2.2
                        rw [HAG.out] at h
                        exact h)
                      go_upto_region 5 with (go_at_call 18; refine HIS2.out.mono ?_; rintro e w20 ⟨r9, rfl, h1, h2, h3, h4, h5, h6⟩; obtain rfl := h2 rfl; have HD20 := Aside0.mk h3; have HB20 := Aside0.mk h5; have HS20 := Aside0.mk (h6.2 _ _ _ _ HS19.out (by decide) (by decide)); clear h1 h2 h3 h4 h5 h6)
                      go_wp2
                      go_roundw
                      case rel => exact ⟨k + 1, d7, X, by omega, by omega, by go_num, HD20, HB20, ⟨by rw [HAG.out]; exact HS20.out⟩, ⟨HWH.out.1, HX8.out, HNEW.out.1, HNEW.out.2⟩⟩
                      case measure => simp [intOf]; omega
                · obtain rfl : j = tn := by omega
                  have g1 : decide ((j : Int) < j) = false := decide_eq_false (by omega)
                  obtain ⟨d7, u1, u2, u3, u4, u5, u6, u7⟩ := wh_open HFj.out.1
                  have HU1 := Aside0.mk u1
                  have HU := Aside0.mk (And.intro u2 (And.intro u3 (And.intro u4 (And.intro u5 (And.intro u6 u7)))))
                  have hcn5 := HFj.out.2.1
                  clear u1 u2 u3 u4 u5 u6 u7
                  go_upto_region 24 with (go_at_call 17; refine (open_c W.heap.size g d' W wr HDj.out HBj.out (Nat.le_refl _) (by have := HCN.out.1; omega)).mono ?_; rintro e w18 ⟨v18, rfl, h1, h2, h3, _, h5⟩; rw [HU1.out] at h1 h5 ⊢; obtain ⟨gv, rfl, hg, hw⟩ := h5 rfl; have HD18 := Aside0.mk h1; have HB18 := Aside0.mk h2; have HW18 := Aside0.mk hw; have HS18 := Aside0.mk (h3.2 _ _ _ _ HSj.out (by decide) (by decide)); have HN18 := Aside0.mk (h3.2 _ _ _ _ HNj.out (by decide) (by decide)); clear h1 h2 h3 h5 hg hw)
                  have HWH := Aside0.mk (wh_open2 HFj.out.1 HU.out.1 HU.out.2.1 HU.out.2.2.1 HU.out.2.2.2.1 (sec_of HD18.out))
                  have hsq : seqTo d7 64 = seqTo d3 64 := HWH.out.2.trans (wh_seq HX.out.1 HFj.out.1 HFj.out.2.2)
                  have HNEW := Aside0.mk (show d7.cnt ≤ 448 * (k + 1) ∧ seqTo d7 64 ≤ ((k + 1 : Nat) : Int) from ⟨by have := HCN.out.1; have := HU.out.2.2.2.2.1; omega, by rw [hsq]; exact HX.out.2.2.2⟩)
                  clear hsq hcn5
                  have HIN := Aside0.mk (show Calls Try.prog 18 #[.agg #[.int .u8 n0, .int .u8 n1, .int .u8 n2, .int .u8 n3, .int .u8 n4, .int .u8 n5, .int .u8 n6, .int .u8 n7], .pointer (some ⟨gv, 0, none⟩)] w18 _ from by
                    have h := is_calls W.heap.size gv g _ d7 nx X HN8.out HX8.out W w18 HW18.out HD18.out HB18.out (Nat.le_refl _) (by have := HNEW.out.1; omega) HU.out.2.2.2.2.2
                    rw [HNG.out] at h
                    exact h)
                  go_upto_region 26 with fail
                  have cn0 := (blk_cell HN18.out 0).trans (rfl : _ = some (Value.int .u8 n0))
                  have cn1 := (blk_cell HN18.out 1).trans (rfl : _ = some (Value.int .u8 n1))
                  have cn2 := (blk_cell HN18.out 2).trans (rfl : _ = some (Value.int .u8 n2))
                  have cn3 := (blk_cell HN18.out 3).trans (rfl : _ = some (Value.int .u8 n3))
                  have cn4 := (blk_cell HN18.out 4).trans (rfl : _ = some (Value.int .u8 n4))
                  have cn5 := (blk_cell HN18.out 5).trans (rfl : _ = some (Value.int .u8 n5))
                  have cn6 := (blk_cell HN18.out 6).trans (rfl : _ = some (Value.int .u8 n6))
                  have cn7 := (blk_cell HN18.out 7).trans (rfl : _ = some (Value.int .u8 n7))
                  by_cases hX : nx = X
                  · go_upto_region 27 with (go_at_call 18; refine HIN.out.mono ?_; rintro e w19 ⟨r9, rfl, h1, h2, h3, h4, h5, h6⟩; obtain rfl := h2 hX; have HD19 := Aside0.mk h3; have HB19 := Aside0.mk h5; have HS19 := Aside0.mk (h6.2 _ _ _ _ HS18.out (by decide) (by decide)); have HN19 := Aside0.mk (h6.2 _ _ _ _ HN18.out (by decide) (by decide)); clear h1 h2 h3 h4 h5 h6)
                    clear cn0 cn1 cn2 cn3 cn4 cn5 cn6 cn7
                    go_upto_region 5 with (first
                      | ((with_reducible refine gate_dst (N := 124) rfl ?_); refine wl_load 38 (.tmp 12) rfl rfl ⟨q, 0, none⟩ [Value.int .u8 n0, Value.int .u8 n1, Value.int .u8 n2, Value.int .u8 n3, Value.int .u8 n4, Value.int .u8 n5, Value.int .u8 n6, Value.int .u8 n7] rfl _ Try.underlying38 rfl size38 (cells_of HN19.out) ?_)
                      | ((with_reducible refine gate_store (t := 38) (p := 6) rfl ?_); refine wl_store 38 (.tmp 6) (.tmp 124) rfl rfl rfl gs 0 [Value.int .u8 n0, Value.int .u8 n1, Value.int .u8 n2, Value.int .u8 n3, Value.int .u8 n4, Value.int .u8 n5, Value.int .u8 n6, Value.int .u8 n7] rfl rfl _ 38 size38 HS19.out (Nat.le_of_eq rfl) (by intro v hv; simp at hv; rcases hv with rfl | rfl | rfl | rfl | rfl | rfl | rfl | rfl <;> rfl) ?_; intro w20 hb8 hgr; have HS20 := Aside0.mk (show w20.heap[gs]? = some (.cells #[.int .u8 n0, .int .u8 n1, .int .u8 n2, .int .u8 n3, .int .u8 n4, .int .u8 n5, .int .u8 n6, .int .u8 n7] 38 (0, 0)) from hb8); have HD20 := Aside0.mk (HD19.out.grown hgr (fun i hi => by cases hi; exact ⟨_, _, HS19.out, by decide, by decide⟩)); have HB20 := Aside0.mk (HB19.out.grown hgr HB19.out.size (fun i hi => by cases hi; exact HGS.out)); clear hb8 hgr))
                    go_wp2
                    go_roundw
                    case rel => exact ⟨k + 1, d7, nx, by omega, by omega, by go_num, HD20, HB20, ⟨by rw [HNG.out]; exact HS20.out⟩, ⟨by rw [hX]; exact HWH.out.1, HN8.out, HNEW.out.1, HNEW.out.2⟩⟩
                    case measure => simp [intOf]; omega
                  · obtain rfl : X = st := (HX.out.2.1.resolve_left (fun h => hX h.symm)).1
                    go_upto_region 28 with (go_at_call 18; refine HIN.out.mono ?_; rintro e w19 ⟨r9, rfl, h1, h2, h3, h4, h5, h6⟩; obtain rfl : r9 = false := Bool.eq_false_iff.2 (fun h => hX (h1 h)); have HD19 := Aside0.mk h3; have HW19 := Aside0.mk h4; have HB19 := Aside0.mk h5; have HS19 := Aside0.mk (h6.2 _ _ _ _ HS18.out (by decide) (by decide)); clear h1 h2 h3 h4 h5 h6)
                    clear cn0 cn1 cn2 cn3 cn4 cn5 cn6 cn7
                    have ca0 := (blk_cell HS19.out 0).trans (rfl : _ = some (Value.int .u8 a0))
                    have ca1 := (blk_cell HS19.out 1).trans (rfl : _ = some (Value.int .u8 a1))
                    have ca2 := (blk_cell HS19.out 2).trans (rfl : _ = some (Value.int .u8 a2))
                    have ca3 := (blk_cell HS19.out 3).trans (rfl : _ = some (Value.int .u8 a3))
                    have ca4 := (blk_cell HS19.out 4).trans (rfl : _ = some (Value.int .u8 a4))
                    have ca5 := (blk_cell HS19.out 5).trans (rfl : _ = some (Value.int .u8 a5))
                    have ca6 := (blk_cell HS19.out 6).trans (rfl : _ = some (Value.int .u8 a6))
                    have ca7 := (blk_cell HS19.out 7).trans (rfl : _ = some (Value.int .u8 a7))
                    have HIS2 := Aside0.mk (show Calls Try.prog 18 #[.agg #[.int .u8 a0, .int .u8 a1, .int .u8 a2, .int .u8 a3, .int .u8 a4, .int .u8 a5, .int .u8 a6, .int .u8 a7], .pointer (some ⟨gv, 0, none⟩)] w19 _ from by
                      have h := is_calls W.heap.size gv g _ d7 X X HX8.out HX8.out W w19 HW19.out HD19.out HB19.out (Nat.le_refl _) (by have := HNEW.out.1; omega) HU.out.2.2.2.2.2
                      rw [HAG.out] at h
                      exact h)
                    go_upto_region 5 with (go_at_call 18; refine HIS2.out.mono ?_; rintro e w20 ⟨r9, rfl, h1, h2, h3, h4, h5, h6⟩; obtain rfl := h2 rfl; have HD20 := Aside0.mk h3; have HB20 := Aside0.mk h5; have HS20 := Aside0.mk (h6.2 _ _ _ _ HS19.out (by decide) (by decide)); clear h1 h2 h3 h4 h5 h6)
                    go_wp2
                    go_roundw
                    case rel => exact ⟨k + 1, d7, X, by omega, by omega, by go_num, HD20, HB20, ⟨by rw [HAG.out]; exact HS20.out⟩, ⟨HWH.out.1, HX8.out, HNEW.out.1, HNEW.out.2⟩⟩
                    case measure => simp [intOf]; omega
      · have f2 : decide ((k : Int) < 6) = false := decide_eq_false (by omega)
        go_wp2_with (go_at_call 15; refine (lives_c wr).mono ?_; rintro e w20 ⟨rfl, h1⟩; have HB20 := Aside0.mk (HBk.out.trans (h1.mono HBk.out.size)); clear h1)
        go_ret
        exact ⟨rfl, HB20.out⟩
    · have f1 : decide ((k : Int) < n) = false := decide_eq_false (by omega)
      go_wp2_with (go_at_call 15; refine (lives_c wr).mono ?_; rintro e w20 ⟨rfl, h1⟩; have HB20 := Aside0.mk (HBk.out.trans (h1.mono HBk.out.size)); clear h1)
      go_ret
      exact ⟨rfl, HB20.out⟩
end Go.Proofs.Ytmghgghheebnjaa.Dis
namespace Go.Proofs.Ytmghgghheebnjaa.walWhole
open Go.ChangeShapes Go.WideShapes Go.ChangeAt Go.RowKit Go.Joins
open Go.ChangeMaps (open_string shut_string)
set_option linter.unusedVariables false
theorem own : ownKnob Try.prog.godebug = none := by kernel_rfl
theorem laidOut : laidOutB Try.prog = true := by kernel_rfl
theorem reach : reachBytes = 140737488351232 := by kernel_rfl
set_option maxHeartbeats 1000000 in
set_option maxRecDepth 100000 in
theorem lifted (os : Os) (started : os.Started) (H : Type) (enc : TypeId × Value → H) :
    ReturnsInHanded {} Try.checked os 4 .any (Rows.walWholeSpec.pre6 enc Try.prog Try.f4 Rows.walWholeRow.domain false) (Rows.walWholeSpec.post enc Try.prog Try.f4 false true false false) := by
  refine returnsInHanded_of_change_sized (C := Try.checked) own started (by kernel_rfl) Try.func4
    (ChangeSpec.witness6 (enc := enc) (C := Try.checked) false ⟨#[], #[.slice none 0 0, .slice none 0 0], []⟩ 8 (by kernel_rfl) (by kernel_rfl) (by kernel_rfl) (by kernel_rfl)) ?_
  intro W base args ds gs before hval0 hW hcnd hsz0 _
  have hval : ∀ (j : Nat) t v, Try.f4.params[j]? = some t → args[j]? = some v → Value.okWide Try.prog W .any base t v := hval0
  have hW' := hW
  obtain ⟨p, q, hA0, hV, rfl, hfz, hnd⟩ := hW
  have hA : DataW.TrodAll enc Try.prog W 0 (fun _ => true) true Try.f4.params.toList args.toList ds p := hA0
  rw [Try.params4] at hA hval hsz0
  obtain ⟨v0, vs0, d0, ds0, p0, q0, hargs, rfl, rfl, h0, r0⟩ := trodAll_cons hA
  obtain ⟨v1, vs1, d1, ds1, p1, q1, rfl, rfl, rfl, h1, r1⟩ := trodAll_cons r0
  obtain ⟨rfl, rfl, rfl⟩ := trodAll_nil r1
  obtain rfl : args = #[v0, v1] := by cases args; simp_all
  obtain ⟨rfl, rfl⟩ := trodVars_none hV
  have k0 := h0
  have lt0 : ∀ x ∈ p0, x.block < W.heap.size := by obtain ⟨m, hm⟩ := k0; exact DataW.trod_lt m _ _ _ hm
  obtain ⟨x0, len0, cap0, rfl⟩ := okWide_slice Try.underlying34 (hval 0 34 v0 rfl rfl)
  obtain ⟨m0, f0⟩ := h0
  obtain ⟨A0, c0, l0, e0, B0, H0, O0⟩ := Dis.acts_K f0
  have e0' := congrArg (fun x => x[0]?) e0
  simp [Value.cells] at e0'
  obtain ⟨rfl, rfl, rfl⟩ := e0'
  have z0 : ((d0, p0).1.weights Try.prog 34).all (· ≤ reachBytes) = true := List.all_eq_true.2 fun n hn => List.all_eq_true.1 hsz0 n (DataW.weights_mem_each (j := 0) rfl rfl n hn)
  have O0 := O0 reachBytes z0
  have k1 := h1
  have lt1 : ∀ x ∈ p1, x.block < W.heap.size := by obtain ⟨m, hm⟩ := k1; exact DataW.trod_lt m _ _ _ hm
  obtain ⟨x1, len1, cap1, rfl⟩ := okWide_slice Try.underlying34 (hval 1 34 v1 rfl rfl)
  obtain ⟨m1, f1⟩ := h1
  obtain ⟨A1, c1, l1, e1, B1, H1, O1⟩ := Dis.acts_K f1
  have e1' := congrArg (fun x => x[0]?) e1
  simp [Value.cells] at e1'
  obtain ⟨rfl, rfl, rfl⟩ := e1'
  have z1 : ((d1, p1).1.weights Try.prog 34).all (· ≤ reachBytes) = true := List.all_eq_true.2 fun n hn => List.all_eq_true.1 hsz0 n (DataW.weights_mem_each (j := 1) rfl rfl n hn)
  have O1 := O1 reachBytes z1
  clear hA0 hval0 hsz0
  rw [reach] at O0 O1
  refine (Dis.whole_calls W l0 l1 x0 x1 cap0 cap1 140737488351232 H0 B0 H1 B1 (by decide) O0.2 O1.2).mono fun e W' ⟨he, bel⟩ => ?_
  subst he
  exact ⟨_, rfl, _, _, _, [], _, [], hW', trodAll_mk1 (shut_bool Try.underlying4 _), (trodAll_cons_mk (Below.trod laidOut (by kernel_rfl) (of_decide_eq_true (by kernel_rfl)) k0 bel lt0) (trodAll_cons_mk (Below.trod laidOut (by kernel_rfl) (of_decide_eq_true (by kernel_rfl)) k1 bel lt1) trodAll_mk0)), rfl, bel.frame _, fun h => by cases h⟩
theorem over : Rows.walWholeRow.holds Try.pinned (OpenSpec.ofChange Rows.walWholeSpec) :=
  OpenClaim.holds_of_wide 4 Try.f4 rfl rfl rfl rfl rfl rfl rfl ⟨rfl, rfl, rfl, rfl, rfl⟩ rfl rfl rfl rfl rfl (by kernel_rfl) Try.func4 (by kernel_rfl)
    (of_decide_eq_true (by kernel_rfl)) (by unfold Func.isWrapper; first | (rw [if_pos (by decide +kernel)]; kernel_rfl) | (rw [if_neg (by decide +kernel)]; exact ⟨rfl, rfl⟩))
    (fun os started H enc _ => lifted os started H enc)
theorem proved : Rows.WalWholeSaid := over
#print axioms proved
end Go.Proofs.Ytmghgghheebnjaa.walWhole
namespace Go.Proofs.Ytmghgghheebnjaa
/-- The row, under a short name, for the claim. -/
theorem walWhole_holds : Rows.WalWholeSaid := walWhole.proved
end Go.Proofs.Ytmghgghheebnjaa
