/- Merged by merge.py. -/
import Derived.Test.YtmghgghheebnjaaWalR
import Derived.Test.YtmghgghheebnjaaDisR
import Derived.Deep.Strs
import Derived.Lib.SmallJoins
import Derived.SizedLaws
import Derived.Test.YtmghgghheebnjaaWalS
import Derived.Test.YtmghgghheebnjaaRows
import Derived.WalkKit
import Derived.ProofKit
import Derived.OpenShut
import Derived.ShutString
import Derived.ChangeOld
import Derived.Below
import Derived.Carry
namespace Go.Proofs.Ytmghgghheebnjaa.Dis
open Go.RowKit Go.Proofs.YtmghgghheebnjaaW.PrintWords Go.Proofs.YtmghgghheebnjaaW.PrintLast Go.Proofs.YtmghgghheebnjaaW.PrintMore Go.Maps Go.Proofs.Ytmghgghheebnjaa.PWalRecords
set_option linter.unusedVariables false
set_option linter.unusedSimpArgs false
/-- A put: its number, its byte. -/
abbrev Put_ := Int × Int
def putK : Kd Put_ := Kd.pair (Kd.int .i64) (Kd.int .u8)
theorem atPut {w : World} {A : Option Addr} {n : Nat} {l : List Put_} (h : Kd.C putK w A n l) (k : Nat) (hk : k < n) : ∃ ad, A = some ad ∧ w.cell? (ad.add (k * 2)) = some (.int .i64 (l.getD k (0, 0)).1) ∧ w.cell? ⟨(ad.add (k * 2)).block, (ad.add (k * 2)).off + 1, none⟩ = some (.int .u8 (l.getD k (0, 0)).2) := by
  obtain ⟨ad, c, e, _, hK, hc0⟩ := Kd.C_get h (0, 0) (k : Int) (by omega) (by omega)
  have hc : ∀ j u, c[j]? = some u → w.cell? (ad.add (k * 2 + j)) = some u := fun j u hj => by have := hc0 j u hj; rwa [Int.toNat_natCast] at this
  rw [Int.toNat_natCast] at hK
  obtain ⟨_, _, rfl, rfl, rfl⟩ := hK
  exact ⟨ad, e, hc 0 _ rfl, by rw [← add_field _ _ 1 (by omega)]; exact hc 1 _ rfl⟩
/-- The last three bits. -/
def low3 (x : Int) : Int := Go.bits .and .i64 x 7
theorem low3_bound (x : Int) : 0 ≤ low3 x ∧ low3 x ≤ 7 := by
  have hb : low3 x = IntKind.i64.wrap (((BitVec.ofInt IntKind.i64.bits x &&& BitVec.ofInt IntKind.i64.bits 7).toNat : Nat) : Int) := rfl
  have h : (BitVec.ofInt IntKind.i64.bits x &&& BitVec.ofInt IntKind.i64.bits 7).toNat ≤ 7 := by
    rw [BitVec.toNat_and]
    refine Nat.le_trans Nat.and_le_right ?_
    decide
  rw [hb, IntKind.wrap_i64]
  omega
/-- Pages of puts. -/
def pageOf (p : Put_) : S58 := ⟨low3 p.1, List.replicate 512 p.2⟩
def pagesW (l : List Put_) : List S58 := (l.take 70).map pageOf
theorem pagesW_snoc {l : List Put_} {k : Nat} (hk : k < l.length) : (l.take (k + 1)).map pageOf = (l.take k).map pageOf ++ [pageOf (l.getD k (0, 0))] := by
  rw [List.getD_eq_getElem?_getD, List.getElem?_eq_getElem hk, Option.getD_some, ← List.take_append_getElem hk, List.map_append]
  rfl
set_option maxHeartbeats 8000000 in
set_option maxRecDepth 100000 in
theorem pages_calls (W : World) (A : Option Addr) (n c : Nat) (l : List Put_) (hC : Kd.C putK W A n l) : Calls Try.prog 21 #[.slice A n c, .int .i64 8] W fun e w' => ∃ v, e = .returned v ∧ Kd.R k58 58 w' W.heap.size tt v (pagesW l) ∧ Below W.heap.size W w' := by
  have HC := Aside0.mk hC
  have HL := Aside0.mk hC.1
  have INF8 := Aside0.mk info58'
  have hmx : n ≤ 9223372036854775807 := hC.2.1
  clear hC
  go_enter Try.func21, Try.ntmps21
  go_upto_region 2 with ((with_reducible refine gate_dst (N := 7) rfl ?_); refine Kd.R_lit k58 (w0 := W) W.heap.size 58 ?hg (N := 7) ?hd (xs := ([] : List S58)) (inner := []) (ok := tt) (okp := tt) ?hr ?hp (fun _ hk => hk) trivial (Below.refl _ _) (Nat.le_refl _) (by simp) ?_; (case hd => rfl); (case hg => rfl); (case hr => first | (go_simp; done) | (go_simp; rfl)); (case hp => exact (Reps.none _ _)); intro v3 w3 ho hb hg_ hnew_; clear hg_ hnew_; have HO := Aside0.mk ho; have HB3 := Aside0.mk hb; clear hb ho)
  go_wp2_with fail
  go_loopw [5, 6] (fun y x wr => ∃ (k : Nat), k ≤ n ∧ k ≤ 70 ∧ x = .int .i64 k ∧ Aside0 (Kd.R k58 58 wr W.heap.size tt y ((l.take k).map pageOf)) ∧ Aside0 (Below W.heap.size W wr)) (fun _ x _ => 70 - (intOf x).toNat)
  case atStart => exact ⟨0, Nat.zero_le _, Nat.zero_le _, rfl, HO, HB3⟩
  case round =>
    obtain ⟨k, hk, hk7, rfl, HRk, HBk⟩ := hrel
    by_cases hlt : k < n
    · have f1 : decide ((k : Int) < n) = true := decide_eq_true (by omega)
      by_cases hlt2 : k < 70
      · have f2 : decide ((k : Int) < 70) = true := decide_eq_true (by omega)
        obtain ⟨ad, hA, p0, p1⟩ := atPut (Kd.C_below HC.out HBk.out) k hlt
        subst hA
        obtain ⟨yA, yc, hy⟩ := Kd.R_slice HRk.out
        subst hy
        rw [show ((l.take k).map pageOf).length = k by rw [List.length_map, List.length_take, HL.out]; omega] at HRk ⊢
        have HSN := Aside0.mk (pagesW_snoc (l := l) (k := k) (by rw [HL.out]; exact hlt))
        obtain ⟨p, hp⟩ : ∃ p, p = l.getD k (0, 0) := ⟨_, rfl⟩
        rw [← hp] at p0 p1 HSN
        obtain ⟨no, cc⟩ := p
        dsimp only at p0 p1
        have HPA := Aside0.mk (show ∀ w', Below W.heap.size W w' → w'.cell? (ad.add (k * 2)) = some (.int .i64 no) ∧ w'.cell? ⟨(ad.add (k * 2)).block, (ad.add (k * 2)).off + 1, none⟩ = some (.int .u8 cc) from fun w' hb => by
          obtain ⟨ad2, hA2, h0, h1⟩ := atPut (Kd.C_below HC.out hb) k hlt
          injection hA2 with hA2
          subst hA2
          rw [← hp] at h0 h1
          exact ⟨h0, h1⟩)
        have hlo : Go.bits .and .i64 no 7 = low3 no := rfl
        have HLTR := Aside0.mk (Kd.R_lt HRk.out)
        have HWS := Aside0.mk HBk.out.size
        clear hp p0 p1
        go_upto_region 5 with fail
        have hdr : Below wr.heap.size wr wr.drew := below_drew (Below.refl _ _)
        refine start_ (n := 18) (S := fun w' => Below W.heap.size W w') (ds := []) #[false, false, false, false, false, false, false, false, false, false, false, false, false, false, false, false, false, false] (by kernel_rfl) rfl rfl (HBk.out.trans (hdr.mono HBk.out.size)) (fun hHeld => ?_)
        have HRd := Aside0.mk (Kd.R_below HRk.out hdr)
        have HLd := Aside0.mk (show wr.heap.size ≤ wr.drew.heap.size from hdr.size)
        have HPd := Aside0.mk (show ∀ w', Below W.heap.size W w' → w'.cell? (ad.add (k * 2)) = some (.int .i64 no) ∧ w'.cell? ⟨(ad.add (k * 2)).block, (ad.add (k * 2)).off + 1, none⟩ = some (.int .u8 cc) from HPA.out)
        generalize wr.drew = wD at hdr hHeld HRd HLd ⊢
        refine pure_ (i := 0) (N := some 18) (v := ?_) (a' := ?_) #[true, false, false, false, false, false, false, false, false, false, false, false, false, false, false, false, false, false] rfl rfl (by kernel_rfl) (fun _ _ _ h => h) (Or.inl ⟨by rfl, ?_⟩) ?_ ?_
        rotate_left
        · intro w'
          go_simp
          with_reducible rfl
        rotate_left
        · simp only [Act.put, List.setIfInBounds_toArray, List.set_cons_zero, List.set_cons_succ]
          rfl
        refine pure_ (i := 1) (N := some 19) (v := ?_) (a' := ?_) #[true, true, false, false, false, false, false, false, false, false, false, false, false, false, false, false, false, false] rfl rfl (by kernel_rfl) (fun _ _ _ h => h) (Or.inl ⟨by rfl, ?_⟩) ?_ ?_
        rotate_left
        · intro w'
          go_simp
          with_reducible rfl
        rotate_left
        · simp only [Act.put, List.setIfInBounds_toArray, List.set_cons_zero, List.set_cons_succ]
          rfl
        refine pure_ (i := 2) (N := some 20) (v := ?_) (a' := ?_) #[true, true, true, false, false, false, false, false, false, false, false, false, false, false, false, false, false, false] rfl rfl (by kernel_rfl) (fun _ _ _ h => h) (Or.inl ⟨by rfl, ?_⟩) ?_ ?_
        rotate_left
        · intro w'
          go_simp
          with_reducible rfl
        rotate_left
        · simp only [Act.put, List.setIfInBounds_toArray, List.set_cons_zero, List.set_cons_succ]
          rfl
        refine pure_ (i := 3) (N := some 21) (v := .pointer (some (ad.add (k * 2)))) (a' := ?_) #[true, true, true, true, false, false, false, false, false, false, false, false, false, false, false, false, false, false] rfl rfl (by kernel_rfl) (fun _ _ _ h => h) (Or.inl ⟨by rfl, ?_⟩) ?_ ?_
        · intro w'
          first | (go_simp; done) | (go_simp; rw [if_pos (show k < n by omega)])
        rotate_left
        · simp only [Act.put, List.setIfInBounds_toArray, List.set_cons_zero, List.set_cons_succ]
          rfl
        refine pure_ (i := 4) (N := some 22) (v := ?_) (a' := ?_) #[true, true, true, true, true, false, false, false, false, false, false, false, false, false, false, false, false, false] rfl rfl (by kernel_rfl) (fun _ _ _ h => h) (Or.inl ⟨by rfl, ?_⟩) ?_ ?_
        rotate_left
        · intro w'
          go_simp
          with_reducible rfl
        rotate_left
        · simp only [Act.put, List.setIfInBounds_toArray, List.set_cons_zero, List.set_cons_succ]
          rfl
        refine take_ (i := 5) (N := some 23) (v := ?_) (a' := ?_) #[true, true, true, true, true, true, false, false, false, false, false, false, false, false, false, false, false, false] rfl rfl (by kernel_rfl) (fun _ _ _ h => h) (Or.inl ⟨by rfl, ?_⟩) hHeld ?_ ?_
        rotate_left
        · intro w' s0
          have s1 := (HPd.out w' s0).1
          go_simp
          with_reducible rfl
        rotate_left
        · simp only [Act.put, List.setIfInBounds_toArray, List.set_cons_zero, List.set_cons_succ]
          rfl
        refine pure_ (i := 6) (N := some 24) (v := ?_) (a' := ?_) #[true, true, true, true, true, true, true, false, false, false, false, false, false, false, false, false, false, false] rfl rfl (by kernel_rfl) (fun _ _ _ h => h) (Or.inl ⟨by rfl, ?_⟩) ?_ ?_
        rotate_left
        · intro w'
          go_simp
          with_reducible rfl
        rotate_left
        · simp only [Act.put, List.setIfInBounds_toArray, List.set_cons_zero, List.set_cons_succ]
          rfl
        refine pure_ (i := 7) (N := some 25) (v := .int .i64 7) (a' := ?_) #[true, true, true, true, true, true, true, true, false, false, false, false, false, false, false, false, false, false] rfl rfl (by kernel_rfl) (fun _ _ _ h => h) (Or.inl ⟨by rfl, ?_⟩) ?_ ?_
        · intro w'
          first | (go_simp; done) | (go_simp; go_num) | (go_simp; rfl)
        rotate_left
        · simp only [Act.put, List.setIfInBounds_toArray, List.set_cons_zero, List.set_cons_succ]
          rfl
        refine pure_ (i := 8) (N := some 26) (v := .int .i64 (low3 no)) (a' := ?_) #[true, true, true, true, true, true, true, true, true, false, false, false, false, false, false, false, false, false] rfl rfl (by kernel_rfl) (fun _ _ _ h => h) (Or.inl ⟨by rfl, ?_⟩) ?_ ?_
        · intro w'
          first | (go_simp; done) | (go_simp; rfl)
        rotate_left
        · simp only [Act.put, List.setIfInBounds_toArray, List.set_cons_zero, List.set_cons_succ]
          rfl
        refine pure_ (i := 9) (N := some 27) (v := ?_) (a' := ?_) #[true, true, true, true, true, true, true, true, true, true, false, false, false, false, false, false, false, false] rfl rfl (by kernel_rfl) (fun _ _ _ h => h) (Or.inl ⟨by rfl, ?_⟩) ?_ ?_
        rotate_left
        · intro w'
          go_simp
          with_reducible rfl
        rotate_left
        · simp only [Act.put, List.setIfInBounds_toArray, List.set_cons_zero, List.set_cons_succ]
          rfl
        refine pure_ (i := 10) (N := some 28) (v := ?_) (a' := ?_) #[true, true, true, true, true, true, true, true, true, true, true, false, false, false, false, false, false, false] rfl rfl (by kernel_rfl) (fun _ _ _ h => h) (Or.inl ⟨by rfl, ?_⟩) ?_ ?_
        rotate_left
        · intro w'
          go_simp
          with_reducible rfl
        rotate_left
        · simp only [Act.put, List.setIfInBounds_toArray, List.set_cons_zero, List.set_cons_succ]
          rfl
        refine pure_ (i := 11) (N := some 29) (v := .pointer (some (ad.add (k * 2)))) (a' := ?_) #[true, true, true, true, true, true, true, true, true, true, true, true, false, false, false, false, false, false] rfl rfl (by kernel_rfl) (fun _ _ _ h => h) (Or.inl ⟨by rfl, ?_⟩) ?_ ?_
        · intro w'
          first | (go_simp; done) | (go_simp; rw [if_pos (show k < n by omega)])
        rotate_left
        · simp only [Act.put, List.setIfInBounds_toArray, List.set_cons_zero, List.set_cons_succ]
          rfl
        refine pure_ (i := 12) (N := some 30) (v := ?_) (a' := ?_) #[true, true, true, true, true, true, true, true, true, true, true, true, true, false, false, false, false, false] rfl rfl (by kernel_rfl) (fun _ _ _ h => h) (Or.inl ⟨by rfl, ?_⟩) ?_ ?_
        rotate_left
        · intro w'
          go_simp
          with_reducible rfl
        rotate_left
        · simp only [Act.put, List.setIfInBounds_toArray, List.set_cons_zero, List.set_cons_succ]
          rfl
        refine take_ (i := 13) (N := some 31) (v := ?_) (a' := ?_) #[true, true, true, true, true, true, true, true, true, true, true, true, true, true, false, false, false, false] rfl rfl (by kernel_rfl) (fun _ _ _ h => h) (Or.inl ⟨by rfl, ?_⟩) hHeld ?_ ?_
        rotate_left
        · intro w' s0
          have s1 := (HPd.out w' s0).2
          go_simp
          with_reducible rfl
        rotate_left
        · simp only [Act.put, List.setIfInBounds_toArray, List.set_cons_zero, List.set_cons_succ]
          rfl
        refine one_ (i := 14) (N := some 32) #[true, true, true, true, true, true, true, true, true, true, true, true, true, true, true, false, false, false] rfl rfl (by kernel_rfl) (by decide) (fun K1 hK => ?_)
        refine goes_ Try.func25 (by kernel_rfl) rfl #[.int .i64 (low3 no), .int .u8 cc] (by rfl) rfl rfl (by (try simp only [List.map_toArray, List.map_cons, List.map_nil]); first | done | rfl) ?_
        refine (page_c wD (low3 no) cc).mono ?_
        rintro e w5 ⟨A5, c5, rfl, h1, h2⟩
        have HR5 := Aside0.mk (Kd.R_below HRd.out h2)
        have HV5 := Aside0.mk (Kd.R_mono (ok' := fun q => wr.heap.size ≤ q) (Kd.R_bound h1) (fun q hq => Nat.le_trans HLd.out hq.2.1))
        have HV5' := Aside0.mk (Kd.R_lower HV5.out (Nat.le_trans HWS.out HLd.out))
        have hb5 := hHeld.trans (h2.mono hHeld.size)
        refine ⟨_, rfl, ?_⟩
        refine hK.out _ _ hb5 (fun hHeld => ?_)
        clear hK K1 h1 h2
        obtain ⟨w6, hw6⟩ : ∃ w6, w6 = w5.alloc (.cells #[.int .i64 (low3 no), .slice A5 512 c5] 58) := ⟨_, rfl⟩
        have hb56 : Below w5.heap.size w5 w6 := by rw [hw6]; exact below_alloc (Below.refl _ _) _
        refine one_ (i := 15) (N := some 33) #[true, true, true, true, true, true, true, true, true, true, true, true, true, true, true, true, false, false] rfl rfl (by kernel_rfl) (by decide) (fun K1 hK => ?_)
        refine value_ (by rfl) rfl (v := .slice (some ⟨w5.heap.size, 0, none⟩) 1 1) (w1 := w6) (by rw [hw6]; first | (go_simp; done) | (go_simp; rfl)) ?_
        refine hK.out _ _ (hb5.trans (hb56.mono hb5.size)) (fun hHeld => ?_)
        clear hK K1 
        rw [hw6]
        refine one_ (i := 16) (N := some 34) #[true, true, true, true, true, true, true, true, true, true, true, true, true, true, true, true, true, false] rfl rfl (by kernel_rfl) (by decide) (fun K1 hK => ?_)
        refine Kd.R_append_step k58 (w0 := W) (W := w5) W.heap.size (by rfl) (.tmp 18) (.tmp 33) 23 58 (.agg #[.int .i64 0, .slice none 0 0]) 32 rfl Try.underlying23 INF8.out rfl (by decide) (by decide) (.slice yA k yc) ((l.take k).map pageOf) ⟨low3 no, List.replicate 512 cc⟩ [.int .i64 (low3 no), .slice A5 512 c5] tt (fun q => wr.heap.size ≤ q) rfl rfl (k58_mkM w5 W.heap.size (fun q => wr.heap.size ≤ q) ⟨low3 no, List.replicate 512 cc⟩ HV5'.out) (fun q hq => ⟨trivial, fun e => Nat.not_lt.2 hq (HLTR.out q e.symm)⟩) (fun _ _ => trivial) HR5.out hb5 hb5.size ?hl ?_
        case hl => rw [List.length_map, List.length_take]; omega
        intro v7 w7 ho hb7 hG hat
        have HO7 := Aside0.mk ho
        clear ho hG hat
        show K1 (Act.put _ (some 34) _) _
        simp only [Act.put, List.setIfInBounds_toArray, List.set_cons_zero, List.set_cons_succ]
        refine hK.out _ _ hb7 (fun hHeld => ?_)
        clear hK K1 
        refine pure_ (i := 17) (N := some 5) (v := ?_) (a' := ?_) #[true, true, true, true, true, true, true, true, true, true, true, true, true, true, true, true, true, true] rfl rfl (by kernel_rfl) (fun _ _ _ h => h) (Or.inl ⟨by rfl, ?_⟩) ?_ ?_
        rotate_left
        · intro w'
          go_simp
          with_reducible rfl
        rotate_left
        · simp only [Act.put, List.setIfInBounds_toArray, List.set_cons_zero, List.set_cons_succ]
          rfl
        refine done_ (by kernel_rfl) ?_
        go_wp2
        go_roundw
        case rel => exact ⟨k + 1, by omega, by omega, by go_num, ⟨by rw [HSN.out]; exact HO7.out⟩, ⟨hb7⟩⟩
        case measure => simp [intOf]; omega
      · obtain rfl : k = 70 := by omega
        have f2 : decide (((70 : Nat) : Int) < 70) = false := by decide
        go_wp2
        go_ret
        exact ⟨_, rfl, HRk.out, HBk.out⟩
    · obtain rfl : k = n := by omega
      have f1 : decide ((k : Int) < k) = false := decide_eq_false (by omega)
      have hpw : pagesW l = (l.take k).map pageOf := by unfold pagesW; rw [List.take_of_length_le (by rw [HL.out]; omega), List.take_of_length_le (by rw [HL.out]; exact Nat.le_refl _)]
      have HPW := Aside0.mk hpw
      clear hpw
      go_wp2
      go_ret
      exact ⟨_, rfl, by rw [HPW.out]; exact HRk.out, HBk.out⟩
end Go.Proofs.Ytmghgghheebnjaa.Dis
namespace Go.Proofs.Ytmghgghheebnjaa.Dis
open Go.RowKit Go.ChangeShapes Go.WideShapes Go.ChangeAt Go.Deep Go.Joins Go.Proofs.YtmghgghheebnjaaW.PrintWords
set_option linter.unusedVariables false
section
variable {H : Type} {enc : TypeId × Value → H} {P : Program} {w : World} {base : Nat} {spare : Nat → Bool} {held : Bool}
theorem slice_K {α : Type} [Inhabited α] (d : Kd α) {Q : α → DataW H → Prop} {t e : TypeId} {fuel : Nat} {cs : List Value} {x : DataW H × List MemPlace} (ht : P.underlying t = some (.slice e)) (hc : P.cellsOf e = d.sz)
    (hel : ∀ m cs x, DataW.trod enc P w base spare held m e cs = some x → ∃ a, d.K w a cs ∧ Q a x.1)
    (h : DataW.trod enc P w base spare held fuel t cs = some x) :
    ∃ (A : Option Addr) (c : Nat) (l : List α) (el sp : List (DataW H)), cs = [.slice A l.length c] ∧ l.length ≤ c ∧ Kd.C d w A l.length l ∧ el.length = l.length ∧ (∀ a ∈ l, ∃ y ∈ el, Q a y) ∧ (x.1 = .nil ∧ l = [] ∨ x.1 = .slice el sp) := by
  rcases DataW.trod_slice ht h with ⟨rfl, rfl⟩ | ⟨a, len, cap, elems, rest, n, _, rfl, rfl, hb, hl, hm, hlen, hel', _, _⟩
  · exact ⟨none, 0, [], [], [], rfl, Nat.le_refl _, ⟨rfl, by simp, fun h => absurd h (by simp)⟩, rfl, fun a ha => absurd ha (by simp), .inl ⟨rfl, rfl⟩⟩
  · have each : ∀ i, i < len → ∃ p, (∃ cs', w.cells? base (a.add (i * d.sz)) d.sz = some cs' ∧ d.K w p cs') ∧ ∃ y ∈ elems.map (·.1), Q p y := fun i hi => by
      have h1 := hel' i hi
      have hi' : i < elems.length := by omega
      rw [List.getElem?_eq_getElem hi', Option.bind_eq_some_iff, hc] at h1
      obtain ⟨cs', h2, h3⟩ := h1
      obtain ⟨p, hp, hq⟩ := hel _ _ _ h3
      exact ⟨p, ⟨cs', h2, hp⟩, _, List.mem_map.2 ⟨_, List.getElem_mem hi', rfl⟩, hq⟩
    obtain ⟨f, hf⟩ := choose_lt each
    refine ⟨some a, cap, (List.range len).map f, elems.map (·.1), rest.map (·.1), by simp, by simpa using hl, ⟨rfl, by simp only [List.length_map, List.length_range]; simp only [maxLen] at hm; omega, fun _ => ⟨a, rfl, fun j p hj => ?_⟩⟩, by simp [hlen], fun p hp => ?_, .inr rfl⟩
    · obtain ⟨hj1, hj2⟩ := List.getElem?_eq_some_iff.1 hj
      simp only [List.length_map, List.length_range] at hj1
      rw [List.getElem_map, List.getElem_range] at hj2
      subst hj2
      obtain ⟨⟨cs', h2, h3⟩, _⟩ := hf j hj1
      refine ⟨cs', d.K_len h3, h3, fun i u hi => ?_⟩
      obtain ⟨hi1, hi2⟩ := List.getElem?_eq_some_iff.1 hi
      have h4 := (World.cells?_some h2).2.2 i (by rw [← d.K_len h3]; exact hi1)
      rw [Go.Proofs.YtmghgghheebnjaaW.PrintWords.add_add] at h4
      rw [h4, hi]
    · obtain ⟨j, hj, rfl⟩ := List.mem_map.1 hp
      exact (hf j (List.mem_range.1 hj)).2
theorem weights_mem {t : TypeId} : ∀ {el : List (DataW H)} {y : DataW H}, y ∈ el → ∀ n ∈ y.weights P t, n ∈ DataW.weightsAll P t el
  | d :: r, y, hy, n, hn => by
    simp only [DataW.weightsAll, List.mem_append]
    rcases List.mem_cons.1 hy with rfl | hy
    · exact .inl hn
    · exact .inr (weights_mem hy n hn)
theorem slice_sized {R : Nat} {t e : TypeId} {el sp : List (DataW H)} (ht : P.underlying t = some (.slice e)) (h : ((DataW.slice el sp).weights P t).all (· ≤ R) = true) :
    el.length * P.bytesOf e ≤ R ∧ ∀ y ∈ el, (y.weights P e).all (· ≤ R) = true := by
  have h' := List.all_eq_true.1 h
  have e1 : (DataW.slice el sp).weights P t = (el.length + sp.length) * P.bytesOf e :: (DataW.weightsAll P e el ++ DataW.weightsAll P e sp) := by simp [DataW.weights, ht]
  rw [e1] at h'
  refine ⟨?_, fun y hy => List.all_eq_true.2 fun n hn => h' n (List.mem_cons_of_mem _ (List.mem_append.2 (.inl (weights_mem hy n hn))))⟩
  have := h' _ List.mem_cons_self
  exact Nat.le_trans (Nat.mul_le_mul_right _ (Nat.le_add_right _ _)) (by simpa using this)
end
section
variable {H : Type} {enc : TypeId × Value → H} {w : World} {base : Nat} {spare : Nat → Bool} {held : Bool}
theorem bytes_K {fuel : Nat} {cs : List Value} {x : DataW H × List MemPlace} (h : DataW.trod enc Try.prog w base spare held fuel 56 cs = some x) :
    ∃ (A : Option Addr) (c : Nat) (l : List Int), cs = [.slice A l.length c] ∧ l.length ≤ c ∧ Kd.C (Kd.int .u8) w A l.length l ∧ OkB l ∧ ∀ R, (x.1.weights Try.prog 56).all (· ≤ R) = true → l.length ≤ R := by
  obtain ⟨A, c, l, el, sp, h1, h2, h3, h4, h5, h6⟩ := slice_K (P := Try.prog) (Kd.int .u8) (Q := fun n _ => 0 ≤ n ∧ n < 256) Try.underlying56 (by kernel_rfl) (fun m cs x hx => by
    obtain ⟨n, rfl, _, hw⟩ := DataW.trod_int Try.underlying5 hx
    have := bounds_u8 hw
    exact ⟨n, rfl, by omega⟩) h
  refine ⟨A, c, l, h1, h2, h3, fun n hn => (h5 n hn).elim fun _ hq => hq.2, fun R hR => ?_⟩
  rcases h6 with ⟨_, rfl⟩ | h6
  · exact Nat.zero_le _
  · rw [h6] at hR
    have := (slice_sized Try.underlying56 hR).1
    rw [show Try.prog.bytesOf 5 = 1 by kernel_rfl, h4] at this
    omega
theorem bools_K {fuel : Nat} {cs : List Value} {x : DataW H × List MemPlace} (h : DataW.trod enc Try.prog w base spare held fuel 44 cs = some x) :
    ∃ (A : Option Addr) (c : Nat) (l : List Bool), cs = [.slice A l.length c] ∧ l.length ≤ c ∧ Kd.C Kd.bool w A l.length l ∧ ∀ R, (x.1.weights Try.prog 44).all (· ≤ R) = true → l.length ≤ R := by
  obtain ⟨A, c, l, el, sp, h1, h2, h3, h4, h5, h6⟩ := slice_K (P := Try.prog) Kd.bool (Q := fun _ _ => True) Try.underlying44 (by kernel_rfl) (fun m cs x hx => by
    obtain ⟨n, rfl, _⟩ := DataW.trod_bool Try.underlying4 hx
    exact ⟨n, rfl, trivial⟩) h
  refine ⟨A, c, l, h1, h2, h3, fun R hR => ?_⟩
  rcases h6 with ⟨_, rfl⟩ | h6
  · exact Nat.zero_le _
  · rw [h6] at hR
    have := (slice_sized Try.underlying44 hR).1
    rw [show Try.prog.bytesOf 4 = 1 by kernel_rfl, h4] at this
    omega
end
end Go.Proofs.Ytmghgghheebnjaa.Dis
namespace Go.Proofs.Ytmghgghheebnjaa.Dis
open Go.RowKit Go.ChangeShapes Go.WideShapes Go.ChangeAt Go.Deep Go.Joins Go.Proofs.YtmghgghheebnjaaW.PrintWords
set_option linter.unusedVariables false
/-- An act: its puts, the call with which the power goes, what stays. -/
abbrev Act_ := List Put_ × Int × List Bool
def actK : Kd Act_ := Kd.pair (Kd.slice 61 putK) (Kd.pair (Kd.int .i64) (Kd.slice 4 Kd.bool))
def act0 : Act_ := ([], 0, [])
def OkP (p : Put_) : Prop := I64 p.1 ∧ 0 ≤ p.2 ∧ p.2 < 256
structure OkA (a : Act_) (R : Nat) : Prop where
  puts : ∀ p ∈ a.1, OkP p
  many : a.1.length ≤ R
  arm : I64 a.2.1
  keep : a.2.2.length ≤ R
section
variable {H : Type} {enc : TypeId × Value → H} {w : World} {base : Nat} {spare : Nat → Bool} {held : Bool}
set_option maxRecDepth 100000 in
theorem put_K {m : Nat} {cs : List Value} {x : DataW H × List MemPlace} (h : DataW.trod enc Try.prog w base spare held m 61 cs = some x) : ∃ a : Put_, putK.K w a cs ∧ OkP a := by
  obtain ⟨y0, y1, n, rfl, hl, h0, h1⟩ := trod_struct2 Try.underlying61 h
  have hl2 : cs.length = 2 := hl.trans (by kernel_rfl)
  obtain ⟨c0, c1, rfl⟩ : ∃ c0 c1, cs = [c0, c1] := by
    match cs, hl2 with
    | [c0, c1], _ => exact ⟨c0, c1, rfl⟩
  have k3 : Try.prog.cellsOf 3 = 1 := by kernel_rfl
  have k5 : Try.prog.cellsOf 5 = 1 := by kernel_rfl
  simp only [k3, k5, List.drop_zero, List.drop_succ_cons, List.take_succ_cons, List.take_zero] at h0 h1
  obtain ⟨x0, e0, _, w0⟩ := DataW.trod_int Try.underlying3 h0
  obtain ⟨x1, e1, _, w1⟩ := DataW.trod_int Try.underlying5 h1
  have b0 := bounds_i64 w0
  have b1 := bounds_u8 w1
  exact ⟨(x0, x1), ⟨[c0], [c1], rfl, e0, e1⟩, ⟨b0.1, b0.2⟩, b1.1, by omega⟩
theorem puts_K {fuel : Nat} {cs : List Value} {x : DataW H × List MemPlace} (h : DataW.trod enc Try.prog w base spare held fuel 43 cs = some x) :
    ∃ (A : Option Addr) (c : Nat) (l : List Put_), cs = [.slice A l.length c] ∧ l.length ≤ c ∧ Kd.C putK w A l.length l ∧ (∀ p ∈ l, OkP p) ∧ ∀ R, (x.1.weights Try.prog 43).all (· ≤ R) = true → l.length ≤ R := by
  obtain ⟨A, c, l, el, sp, h1, h2, h3, h4, h5, h6⟩ := slice_K (P := Try.prog) putK (Q := fun n _ => OkP n) Try.underlying43 (by kernel_rfl) (fun m cs x hx => by
    obtain ⟨a, ha, hb⟩ := put_K hx
    exact ⟨a, ha, hb⟩) h
  refine ⟨A, c, l, h1, h2, h3, fun n hn => (h5 n hn).elim fun _ hq => hq.2, fun R hR => ?_⟩
  rcases h6 with ⟨_, rfl⟩ | h6
  · exact Nat.zero_le _
  · rw [h6] at hR
    have := (slice_sized Try.underlying43 hR).1
    rw [show Try.prog.bytesOf 61 = 16 by kernel_rfl, h4] at this
    omega
set_option maxRecDepth 100000 in
theorem act_K {m : Nat} {cs : List Value} {x : DataW H × List MemPlace} (h : DataW.trod enc Try.prog w base spare held m 46 cs = some x) :
    ∃ a : Act_, actK.K w a cs ∧ ∀ R, (x.1.weights Try.prog 46).all (· ≤ R) = true → OkA a R := by
  obtain ⟨y0, y1, y2, n, rfl, hl, h0, h1, h2⟩ := trod_struct3 Try.underlying46 h
  have hl3 : cs.length = 3 := hl.trans (by kernel_rfl)
  obtain ⟨c0, c1, c2, rfl⟩ : ∃ c0 c1 c2, cs = [c0, c1, c2] := by
    match cs, hl3 with
    | [c0, c1, c2], _ => exact ⟨c0, c1, c2, rfl⟩
  have k3 : Try.prog.cellsOf 3 = 1 := by kernel_rfl
  have k43 : Try.prog.cellsOf 43 = 1 := by kernel_rfl
  have k44 : Try.prog.cellsOf 44 = 1 := by kernel_rfl
  simp only [k3, k43, k44, List.drop_zero, List.drop_succ_cons, List.take_succ_cons, List.take_zero] at h0 h1 h2
  obtain ⟨A0, c0', l0, e0, hc0, hC0, ho0, hs0⟩ := puts_K h0
  obtain ⟨x1, e1, _, w1⟩ := DataW.trod_int Try.underlying3 h1
  obtain ⟨A2, c2', l2, e2, hc2, hC2, hs2⟩ := bools_K h2
  refine ⟨(l0, x1, l2), ⟨[c0], [c1, c2], rfl, ⟨A0, c0', e0, hc0, hC0⟩, [c1], [c2], rfl, e1, ⟨A2, c2', e2, hc2, hC2⟩⟩, fun R hR => ?_⟩
  have e : (DataW.agg [y0.1, y1.1, y2.1]).weights Try.prog 46 = y0.1.weights Try.prog 43 ++ (y1.1.weights Try.prog 3 ++ (y2.1.weights Try.prog 44 ++ [])) := by
    simp [DataW.weights, DataW.weightsEach, Try.underlying46]
  rw [e, List.all_append, List.all_append, List.all_append, Bool.and_eq_true, Bool.and_eq_true, Bool.and_eq_true] at hR
  have b1 := bounds_i64 w1
  exact ⟨ho0, hs0 R hR.1, ⟨b1.1, b1.2⟩, hs2 R hR.2.2.1⟩
theorem acts_K {fuel : Nat} {cs : List Value} {x : DataW H × List MemPlace} (h : DataW.trod enc Try.prog w base spare held fuel 34 cs = some x) :
    ∃ (A : Option Addr) (c : Nat) (l : List Act_), cs = [.slice A l.length c] ∧ l.length ≤ c ∧ Kd.C actK w A l.length l ∧ ∀ R, (x.1.weights Try.prog 34).all (· ≤ R) = true → l.length ≤ R ∧ ∀ a ∈ l, OkA a R := by
  obtain ⟨A, c, l, el, sp, h1, h2, h3, h4, h5, h6⟩ := slice_K (P := Try.prog) actK (Q := fun a y => ∀ R, (y.weights Try.prog 46).all (· ≤ R) = true → OkA a R) Try.underlying34 (by kernel_rfl) (fun m cs x hx => act_K hx) h
  refine ⟨A, c, l, h1, h2, h3, fun R hR => ?_⟩
  rcases h6 with ⟨_, rfl⟩ | h6
  · exact ⟨Nat.zero_le _, fun a ha => absurd ha (by simp)⟩
  · rw [h6] at hR
    have hs := slice_sized Try.underlying34 hR
    rw [show Try.prog.bytesOf 46 = 56 by kernel_rfl, h4] at hs
    exact ⟨by omega, fun a ha => (h5 a ha).elim fun y hy => hy.2 R (hs.2 y hy.1)⟩
end
/-- An act of a row. -/
theorem act_at {w : World} {A : Option Addr} {n : Nat} {l : List Act_} (h : actK.C w A n l) (k : Nat) (hk : k < n) :
    ∃ ad A0 c0 A2 c2, A = some ad ∧ w.cell? (ad.add (k * 3)) = some (.slice A0 (l.getD k act0).1.length c0) ∧ w.cell? ⟨(ad.add (k * 3)).block, (ad.add (k * 3)).off + 1, none⟩ = some (.int .i64 (l.getD k act0).2.1) ∧ w.cell? ⟨(ad.add (k * 3)).block, (ad.add (k * 3)).off + 2, none⟩ = some (.slice A2 (l.getD k act0).2.2.length c2) ∧
      (l.getD k act0).1.length ≤ c0 ∧ Kd.C putK w A0 (l.getD k act0).1.length (l.getD k act0).1 ∧ (l.getD k act0).2.2.length ≤ c2 ∧ Kd.C Kd.bool w A2 (l.getD k act0).2.2.length (l.getD k act0).2.2 := by
  obtain ⟨ad, c, e, _, hK, hc0⟩ := Kd.C_get h act0 (k : Int) (by omega) (by omega)
  have hc : ∀ j u, c[j]? = some u → w.cell? (ad.add (k * 3 + j)) = some u := fun j u hj => by have := hc0 j u hj; rwa [Int.toNat_natCast] at this
  rw [Int.toNat_natCast] at hK
  obtain ⟨_, _, rfl, ⟨A0, c0, rfl, hl0, hC0⟩, _, _, rfl, rfl, ⟨A2, c2, rfl, hl2, hC2⟩⟩ := hK
  exact ⟨ad, A0, c0, A2, c2, e, hc 0 _ rfl, by rw [← add_field _ _ 1 (by omega)]; exact hc 1 _ rfl, by rw [← add_field _ _ 2 (by omega)]; exact hc 2 _ rfl, hl0, hC0, hl2, hC2⟩
end Go.Proofs.Ytmghgghheebnjaa.Dis
namespace Go.Proofs.Ytmghgghheebnjaa.Dis
open Go.RowKit Go.Proofs.YtmghgghheebnjaaW.PrintWords Go.Proofs.YtmghgghheebnjaaW.PrintLast Go.Proofs.YtmghgghheebnjaaW.PrintMore Go.Maps Go.Proofs.Ytmghgghheebnjaa.PWalRecords
set_option linter.unusedVariables false
set_option linter.unusedSimpArgs false
/-- Opening with power: the log stays. -/
theorem open_live {d : D} (h : Live d) (hs : d.since = []) (hn : 64 < d.n) (hsec : ∀ i, Sec (d.fast i)) : ∃ d1 : D, openD d = (d1, seqTo d 64, 0) ∧ Live d1 ∧ d1.since = [] ∧ d1.n = d.n ∧ d1.cnt ≤ d.cnt + 64 ∧ ∀ i : Nat, i < 64 → d1.fast (i : Int) = d.fast (i : Int) := by
  have hb : ∀ s ∈ logF d.fast, BytesOk s := by
    intro s hs
    unfold logF at hs
    obtain ⟨k, _, rfl⟩ := List.mem_map.1 hs
    exact (hsec _).2
  obtain ⟨F, hF⟩ : ∃ F, F = (pagesOf (logF d.fast)).filter (fun p => thereB d.n p.f0) := ⟨_, rfl⟩
  have hFp : ∀ p ∈ F, thereB d.n p.f0 = true ∧ p.f1.length = 512 := by
    intro p hp
    rw [hF] at hp
    have h1 := List.mem_filter.1 hp
    exact ⟨h1.2, (pagesOf_ok hb p h1.1).2.2.2⟩
  have hFl : F.length ≤ 64 := by
    rw [hF]
    refine Nat.le_trans (List.length_filter_le _ _) ?_
    unfold pagesOf
    split
    · rename_i hh
      unfold outS
      rw [List.length_map, List.length_range]
      exact hh.m64
    · simp
  obtain ⟨c1, hw1, hc1⟩ := writesD_live h hs hFp
  refine ⟨{ d with fast := applyW (pgW F) d.fast, cnt := c1 }, by rw [openD_live h hs hn, ← hF, hw1], h, hs, rfl, by show c1 ≤ _; omega, fun i hi => ?_⟩
  refine applyW_out _ _ _ (fun x hx => ?_)
  obtain ⟨p, hp, rfl⟩ := List.mem_map.1 hx
  have := of_decide_eq_true (hFp p hp).1
  show 64 + p.f0 ≠ (i : Int)
  omega
theorem callD_or (d : D) : (callD d).2 = 0 ∨ (callD d).2 = 190 := callD_e d
/-- Writes on any disk: a first part of them is there. -/
theorem wrD_any : ∀ (xs : List (Int × List Int)) (d : D), (∀ x ∈ xs, 0 ≤ x.1 ∧ x.1 < d.n ∧ x.2.length = 512) → ∃ j, (wrD d xs).1.fast = d.fast ∧ (wrD d xs).1.n = d.n ∧ (wrD d xs).1.since = d.since ++ xs.take j ∧ ((wrD d xs).2 = 0 → xs.take j = xs) ∧ (wrD d xs).1.cnt ≤ d.cnt + xs.length := by
  intro xs
  induction xs with
  | nil => intro d _; exact ⟨0, rfl, rfl, by simp [wrD], fun _ => rfl, by simp [wrD]⟩
  | cons x xs ih =>
    intro d hx
    have h1 := hx x List.mem_cons_self
    have hp : pad x.2 = x.2 := by unfold pad; rw [h1.2.2]; simp
    have hcn := callD_cnt d
    have hcf := callD_fast d
    have hcs := callD_since d
    have hcl := callD_n d
    unfold wrD
    rcases callD_or d with hc | hc
    · have ht : thereD (callD d).1 x.1 = 0 := by unfold thereD; rw [hcl, if_neg (by omega), if_neg (by omega)]
      have hw : writeD d x.1 x.2 = ({ (callD d).1 with since := (callD d).1.since ++ [(x.1, x.2)], cnt := (callD d).1.cnt + 1 }, 0) := by
        unfold writeD
        rw [if_neg (by rw [hc]; exact fun h => h rfl), if_neg (by rw [ht]; exact fun h => h rfl), if_neg (by omega), hp]
      rw [hw, if_pos rfl]
      obtain ⟨j, a1, a2, a3, a4, a5⟩ := ih { (callD d).1 with since := (callD d).1.since ++ [(x.1, x.2)], cnt := (callD d).1.cnt + 1 } (fun y hy => by have := hx y (List.mem_cons_of_mem _ hy); exact ⟨this.1, by show y.1 < (callD d).1.n; rw [hcl]; exact this.2.1, this.2.2⟩)
      refine ⟨j + 1, by rw [a1]; exact hcf, by rw [a2]; exact hcl, ?_, fun h => by rw [List.take_succ_cons, a4 h], ?_⟩
      · rw [a3]
        show (callD d).1.since ++ [(x.1, x.2)] ++ xs.take j = _
        rw [hcs, List.append_assoc]
        rfl
      · have a6 : _ ≤ (callD d).1.cnt + 1 + xs.length := a5
        have a7 := hcn
        refine Nat.le_trans a6 ?_
        rw [List.length_cons]
        omega
    · have hw : writeD d x.1 x.2 = ((callD d).1, 190) := by
        unfold writeD
        rw [if_pos (by rw [hc]; decide), hc]
      rw [hw, if_neg (fun h => absurd (h : (190 : Int) = 0) (by decide))]
      exact ⟨0, hcf, hcl, by rw [List.take_zero, List.append_nil]; exact hcs, fun h => absurd (show (190 : Int) = 0 from h) (by decide), by show (callD d).1.cnt ≤ _; omega⟩
theorem flushD_any (d : D) : ((flushD d).2 = 0 ∧ (flushD d).1.fast = applyW d.since d.fast ∧ (flushD d).1.since = [] ∧ (flushD d).1.n = d.n ∧ (flushD d).1.cnt = d.cnt) ∨ ((flushD d).2 ≠ 0 ∧ (flushD d).1.fast = d.fast ∧ (flushD d).1.since = d.since ∧ (flushD d).1.n = d.n ∧ (flushD d).1.cnt = d.cnt) := by
  unfold flushD
  rcases callD_or d with hc | hc
  · left
    rw [if_pos hc]
    refine ⟨rfl, ?_, rfl, callD_n d, callD_cnt d⟩
    show keptTo (fun _ => true) (callD d).1.since (callD d).1.fast (callD d).1.since.length = _
    rw [keptTo_all _ _ _ (Nat.le_refl _), List.take_of_length_le (Nat.le_refl _), callD_since, callD_fast]
  · right
    rw [if_neg (by rw [hc]; decide)]
    exact ⟨by rw [hc]; decide, callD_fast d, callD_since d, callD_n d, callD_cnt d⟩
theorem writesD_any {d : D} (hs : d.since = []) {l : List S58} (hp : ∀ p ∈ l, thereB d.n p.f0 = true ∧ p.f1.length = 512) : (∀ x ∈ (writesD d l).1.since, 64 ≤ x.1) ∧ (∀ i : Int, i < 64 → (writesD d l).1.fast i = d.fast i) ∧ (writesD d l).1.n = d.n ∧ (writesD d l).1.cnt ≤ d.cnt + l.length := by
  have hx : ∀ x ∈ pgW l, 0 ≤ x.1 ∧ x.1 < d.n ∧ x.2.length = 512 ∧ 64 ≤ x.1 := by
    intro x hx
    obtain ⟨p, hpm, rfl⟩ := List.mem_map.1 hx
    have h1 := hp p hpm
    have h2 := of_decide_eq_true h1.1
    exact ⟨by show 0 ≤ 64 + p.f0; omega, by show 64 + p.f0 < d.n; omega, h1.2, by show 64 ≤ 64 + p.f0; omega⟩
  obtain ⟨j, a1, a2, a3, a4, a5⟩ := wrD_any (pgW l) d (fun x h => ⟨(hx x h).1, (hx x h).2.1, (hx x h).2.2.1⟩)
  have hl : (pgW l).length = l.length := by unfold pgW; simp
  rw [hl] at a5
  rw [hs, List.nil_append] at a3
  have hsi : ∀ x ∈ (wrD d (pgW l)).1.since, 64 ≤ x.1 := fun x h => by rw [a3] at h; exact (hx x (List.mem_of_mem_take h)).2.2.2
  unfold writesD
  split
  · split
    · exact ⟨hsi, ⟨fun i _ => by rw [a1], a2, a5⟩⟩
    · rcases flushD_any (wrD d (pgW l)).1 with ⟨_, b1, b2, b3, b4⟩ | ⟨_, b1, b2, b3, b4⟩
      · refine ⟨fun x h => absurd (b2 ▸ h : x ∈ []) (by simp), fun i hi => ?_, b3.trans a2, Nat.le_trans (Nat.le_of_eq b4) a5⟩
        rw [b1, applyW_out _ _ _ (fun x h e => by have := hsi x h; omega), a1]
      · exact ⟨fun x h => by rw [b2] at h; exact hsi x h, fun i _ => by rw [b1, a1], by rw [b3, a2], by rw [b4]; exact a5⟩
  · exact ⟨hsi, fun i _ => by rw [a1], a2, a5⟩
/-- A commit on any disk. -/
theorem commit_any {d : D} (hs : d.since = []) (hn : 64 < d.n) {s : Int} (h0 : 0 ≤ s) (h1 : s < 18446744073709551616) {l : List S58} (hp : ∀ p ∈ l, thereB d.n p.f0 = true ∧ p.f1.length = 512 ∧ BytesOk p.f1) :
    (commitD d s l).1.n = d.n ∧ (commitD d s l).1.cnt ≤ d.cnt + 128 ∧ ((commitD d s l).2.2 = 0 → l ≠ [] → (commitD d s l).2.1 = s + 1) ∧
    (((commitD d s l).2.1 = s ∧ (commitD d s l).1.fast = d.fast ∧ ∀ x ∈ (commitD d s l).1.since, numB (x.2.take 8) = s + 1) ∨
     ((commitD d s l).2.1 = s + 1 ∧ s + 1 < 18446744073709551616 ∧ numB (((commitD d s l).1.fast 0).take 8) = s + 1 ∧ (∀ i : Nat, i < 64 → (commitD d s l).1.fast (i : Int) = d.fast (i : Int) ∨ numB (((commitD d s l).1.fast (i : Int)).take 8) = s + 1) ∧ ∀ x ∈ (commitD d s l).1.since, 64 ≤ x.1)) := by
  have early : ∀ e : Int, e ≠ 0 → ((d, s, e) : D × Int × Int).1.n = d.n ∧ ((d, s, e) : D × Int × Int).1.cnt ≤ d.cnt + 128 ∧ (((d, s, e) : D × Int × Int).2.2 = 0 → l ≠ [] → ((d, s, e) : D × Int × Int).2.1 = s + 1) ∧
      ((((d, s, e) : D × Int × Int).2.1 = s ∧ ((d, s, e) : D × Int × Int).1.fast = d.fast ∧ ∀ x ∈ ((d, s, e) : D × Int × Int).1.since, numB (x.2.take 8) = s + 1) ∨
     (((d, s, e) : D × Int × Int).2.1 = s + 1 ∧ s + 1 < 18446744073709551616 ∧ numB ((((d, s, e) : D × Int × Int).1.fast 0).take 8) = s + 1 ∧ (∀ i : Nat, i < 64 → ((d, s, e) : D × Int × Int).1.fast (i : Int) = d.fast (i : Int) ∨ numB ((((d, s, e) : D × Int × Int).1.fast (i : Int)).take 8) = s + 1) ∧ ∀ x ∈ ((d, s, e) : D × Int × Int).1.since, 64 ≤ x.1)) := fun e he =>
    ⟨rfl, Nat.le_add_right _ _, fun h => absurd h he, .inl ⟨rfl, rfl, fun x hx => by rw [show ((d, s, e) : D × Int × Int).1.since = [] from hs] at hx; cases hx⟩⟩
  unfold commitD
  split
  · exact early 1 (by decide)
  split
  · rename_i hl
    refine ⟨rfl, Nat.le_add_right _ _, fun _ h => absurd (List.eq_nil_of_length_eq_zero hl) h, .inl ⟨rfl, rfl, fun x hx => ?_⟩⟩
    rw [show ((d, s, (0 : Int)) : D × Int × Int).1.since = [] from hs] at hx
    cases hx
  split
  · exact early 8 (by decide)
  rename_i hmx
  split
  · rename_i he
    exact early _ he
  rename_i he
  have he' : recE (s + 1) l = 0 := Classical.byContradiction he
  have hr := recE_0 he'
  have hrs := recS_ok (seq := s + 1) (l := l) (fun p hpm => (hp p hpm).2.2)
  have hN := recS_len (s + 1) l
  have hsq : ∀ x ∈ enumW 0 (recS (s + 1) l), numB (x.2.take 8) = s + 1 ∧ 0 ≤ x.1 ∧ x.1 < 64 := by
    intro x hx
    have h2 := enumW_mem _ 0 x hx
    obtain ⟨i, _, hi⟩ := List.mem_map.1 h2.2.2
    refine ⟨?_, by have := h2.1; omega, by have := h2.2.1; omega⟩
    rw [← hi, sect_parts.1]
    exact numB_big _ 8 (by omega) (by have : (256 : Int) ^ 8 = 18446744073709551616 := by decide
                                      omega)
  obtain ⟨j, a1, a2, a3, a4, a5⟩ := wrD_any (enumW 0 (recS (s + 1) l)) d (fun x hx => by
    have h2 := enumW_mem _ 0 x hx
    exact ⟨(hsq x hx).2.1, by have := (hsq x hx).2.2; omega, (hrs _ h2.2.2).1⟩)
  rw [hs, List.nil_append] at a3
  rw [enumW_len] at a5
  have hsi : ∀ x ∈ (wrD d (enumW 0 (recS (s + 1) l))).1.since, numB (x.2.take 8) = s + 1 := fun x h => by rw [a3] at h; exact (hsq x (List.mem_of_mem_take h)).1
  split
  · rename_i h2
    exact ⟨a2, by show (wrD d (enumW 0 (recS (s + 1) l))).1.cnt ≤ _; omega, fun h => absurd h h2, .inl ⟨rfl, a1, hsi⟩⟩
  rename_i h2
  have h2' : (wrD d (enumW 0 (recS (s + 1) l))).2 = 0 := Classical.byContradiction h2
  rcases flushD_any (wrD d (enumW 0 (recS (s + 1) l))).1 with ⟨b0, b1, b2, b3, b4⟩ | ⟨b0, b1, b2, b3, b4⟩
  · rw [if_neg (by rw [b0]; exact fun h => h rfl)]
    obtain ⟨c1, c2, c3, c4⟩ := writesD_any (d := (flushD (wrD d (enumW 0 (recS (s + 1) l))).1).1) b2 (l := l) (fun p hpm => by rw [b3, a2]; exact ⟨(hp p hpm).1, (hp p hpm).2.1⟩)
    have hat : ∀ i : Nat, i < 64 → (writesD (flushD (wrD d (enumW 0 (recS (s + 1) l))).1).1 l).1.fast (i : Int) = if i < (recS (s + 1) l).length then (recS (s + 1) l).getD i [] else d.fast (i : Int) := by
      intro i hi
      rw [c2 (i : Int) (by omega), b1, a3, a4 h2', a1, applyW_enum]
      by_cases hlt : i < (recS (s + 1) l).length
      · rw [if_pos hlt, if_pos (by omega)]
        show (recS (s + 1) l).getD ((i : Int) - ((0 : Nat) : Int)).toNat [] = _
        rw [show ((i : Int) - ((0 : Nat) : Int)).toNat = i by omega]
      · rw [if_neg hlt, if_neg (by omega)]
    have hnum : ∀ i : Nat, i < (recS (s + 1) l).length → numB (((recS (s + 1) l).getD i []).take 8) = s + 1 := by
      intro i hi
      have h3 := recS_at (s + 1) l [] (i := i) (by rw [← hN]; exact hi)
      rw [List.append_nil] at h3
      rw [h3, sect_parts.1]
      exact numB_big _ 8 (by omega) (by have : (256 : Int) ^ 8 = 18446744073709551616 := by decide
                                        omega)
    have hN1 : 1 ≤ secsN l.length := by unfold secsN; omega
    refine ⟨by show (writesD _ l).1.n = _; rw [c3, b3, a2], by show (writesD _ l).1.cnt ≤ _; rw [b4] at c4; omega, fun _ _ => rfl, .inr ⟨rfl, by omega, ?_, fun i hi => ?_, c1⟩⟩
    · show numB (((writesD _ l).1.fast ((0 : Nat) : Int)).take 8) = s + 1
      rw [hat 0 (by decide), if_pos (by rw [hN]; omega)]
      exact hnum 0 (by rw [hN]; omega)
    · show (writesD _ l).1.fast (i : Int) = _ ∨ numB (((writesD _ l).1.fast (i : Int)).take 8) = s + 1
      rw [hat i hi]
      by_cases hlt : i < (recS (s + 1) l).length
      · rw [if_pos hlt]; exact .inr (hnum i hlt)
      · rw [if_neg hlt]; exact .inl rfl
  · rw [if_pos b0]
    exact ⟨by show (flushD _).1.n = _; rw [b3, a2], by show (flushD _).1.cnt ≤ _; rw [b4]; omega, fun h => absurd h b0, .inl ⟨rfl, by show (flushD _).1.fast = _; rw [b1, a1], fun x h => hsi x (by rw [← b2]; exact h)⟩⟩
theorem keptTo_or (F : Nat → Bool) (l : List (Int × List Int)) (f : Int → List Int) (i : Int) : ∀ k, k ≤ l.length → keptTo F l f k i = f i ∨ ∃ x ∈ l, x.1 = i ∧ keptTo F l f k i = x.2 := by
  intro k
  induction k with
  | zero => intro _; exact .inl rfl
  | succ k ih =>
    intro hk
    unfold keptTo
    split
    · have hm : l.getD k (0, zeros) ∈ l := by rw [List.getD_eq_getElem?_getD, List.getElem?_eq_getElem (by omega)]; exact List.getElem_mem _
      generalize l.getD k (0, zeros) = x at hm
      unfold upd
      by_cases e : i = x.1
      · rw [if_pos e]; exact .inr ⟨x, hm, e.symm, rfl⟩
      · rw [if_neg e]; exact ih (by omega)
    · exact ih (by omega)
theorem seqTo_hit {d : D} : ∀ k, seqTo d k = 0 ∨ ∃ i, i < k ∧ numB ((rdRow d i).take 8) = seqTo d k := by
  intro k
  induction k with
  | zero => exact .inl rfl
  | succ k ih =>
    unfold seqTo
    split
    · exact .inr ⟨k, by omega, rfl⟩
    · rcases ih with h | ⟨i, hi, h⟩
      · exact .inl h
      · exact .inr ⟨i, by omega, h⟩
/-- One round of WalSeqs. -/
theorem seqs_step {d : D} (h : Live d) (hs : d.since = []) (hn : 64 < d.n) (hsec : ∀ i, Sec (d.fast i)) {l : List S58} (hp : ∀ p ∈ l, thereB d.n p.f0 = true ∧ p.f1.length = 512 ∧ BytesOk p.f1) (arm : Int) (keep : List Bool) :
    ∃ (d1 d2 d3 : D) (s s' e : Int), openD d = (d1, s, 0) ∧ s = seqTo d 64 ∧ 0 ≤ s ∧ s < 18446744073709551616 ∧ d1.cnt ≤ d.cnt + 64 ∧ commitD (armD d1 arm) s l = (d2, s', e) ∧ (e = 0 → l ≠ [] → s' = s + 1) ∧ (s' = s ∨ (s' = s + 1 ∧ s + 1 < 18446744073709551616)) ∧ d2.cnt ≤ d.cnt + 192 ∧
      crashD d2 keep = d3 ∧ Live d3 ∧ d3.since = [] ∧ d3.n = d.n ∧ d3.cnt ≤ d.cnt + 192 ∧ s' ≤ seqTo d3 64 ∧ seqTo d3 64 ≤ s + 1 := by
  obtain ⟨d1, ho, hl1, hs1, hn1, hc1, hlow⟩ := open_live h hs hn hsec
  have hb := seqTo_bound (d := d) (fun k hk _ => by rw [(rd_live h hs hn hk).1]; exact hsec _) 64 (Nat.le_refl _) (fun i hi => (rd_live h hs hn hi).2)
  obtain ⟨c1, c2, c3, c4⟩ := commit_any (d := armD d1 arm) hs1 (by show 64 < d1.n; rw [hn1]; exact hn) hb.1 hb.2 (l := l) (fun p hpm => by show thereB d1.n p.f0 = true ∧ _; rw [hn1]; exact hp p hpm)
  obtain ⟨r, hr⟩ : ∃ r, r = commitD (armD d1 arm) (seqTo d 64) l := ⟨_, rfl⟩
  rw [← hr] at c1 c2 c3 c4
  obtain ⟨d2, s', e⟩ := r
  dsimp only at c1 c2 c3 c4
  have hn3 : (crashD d2 keep).n = d.n := by show d2.n = _; rw [c1]; exact hn1
  have hl3 : Live (crashD d2 keep) := ⟨rfl, rfl⟩
  have hs3 : (crashD d2 keep).since = [] := rfl
  have hf3 : (crashD d2 keep).fast = keptTo (kept keep) d2.since d2.fast d2.since.length := rfl
  have hc2' : d2.cnt ≤ d.cnt + 192 := by have : (armD d1 arm).cnt = d1.cnt := rfl; omega
  refine ⟨d1, d2, _, seqTo d 64, s', e, ho, rfl, hb.1, hb.2, hc1, hr.symm, c3, ?_, hc2', rfl, hl3, hs3, hn3, by show d2.cnt ≤ _; exact hc2', ?_, ?_⟩
  · rcases c4 with ⟨h1, _⟩ | ⟨h1, h2, _⟩
    · exact .inl h1
    · exact .inr ⟨h1, h2⟩
  · rcases c4 with ⟨h1, h2, h3⟩ | ⟨h1, h2, h3, _, h4⟩
    · rw [h1]
      rcases seqTo_hit (d := d) 64 with h0 | ⟨i, hi, h5⟩
      · rw [h0]; exact seqTo_pos _ _
      · rw [← h5]
        have h6 := seqTo_ge (d := crashD d2 keep) 64 i hi
        rw [(rd_live hl3 hs3 (by rw [hn3]; exact hn) hi).1, hf3] at h6
        rw [(rd_live h hs hn hi).1] at h5 ⊢
        rcases keptTo_or (kept keep) d2.since d2.fast (i : Int) _ (Nat.le_refl _) with h7 | ⟨x, hx, _, h7⟩
        · rw [h7, h2] at h6
          have h8 : (armD d1 arm).fast (i : Int) = d.fast (i : Int) := hlow i hi
          rw [h8] at h6
          exact h6
        · rw [h7, h3 x hx] at h6
          omega
    · rw [h1]
      have h6 := seqTo_ge (d := crashD d2 keep) 64 0 (by decide)
      rw [(rd_live hl3 hs3 (by rw [hn3]; exact hn) (by decide)).1, hf3] at h6
      rcases keptTo_or (kept keep) d2.since d2.fast ((0 : Nat) : Int) _ (Nat.le_refl _) with h7 | ⟨x, hx, h8, _⟩
      · rw [h7] at h6
        have h9 : numB ((d2.fast ((0 : Nat) : Int)).take 8) = seqTo d 64 + 1 := h3
        rw [h9] at h6
        exact h6
      · have := h4 x hx
        omega
  · refine seqTo_le (by omega) 64 (fun i hi => ?_)
    rw [(rd_live hl3 hs3 (by rw [hn3]; exact hn) hi).1, hf3]
    have hold : numB ((d.fast (i : Int)).take 8) ≤ seqTo d 64 := by
      have := seqTo_ge (d := d) 64 i hi
      rwa [(rd_live h hs hn hi).1] at this
    have hd1 : (armD d1 arm).fast (i : Int) = d.fast (i : Int) := hlow i hi
    rcases keptTo_or (kept keep) d2.since d2.fast (i : Int) _ (Nat.le_refl _) with h7 | ⟨x, hx, h8, h7⟩
    · rw [h7]
      rcases c4 with ⟨_, h2, _⟩ | ⟨_, _, _, h4, _⟩
      · rw [h2, hd1]; omega
      · rcases h4 i hi with h5 | h5
        · rw [h5, hd1]; omega
        · rw [h5]; exact Int.le_refl _
    · rw [h7]
      rcases c4 with ⟨_, _, h3⟩ | ⟨_, _, _, _, h4⟩
      · rw [h3 x hx]; exact Int.le_refl _
      · have := h4 x hx
        omega
theorem pagesW_ok {l : List Put_} (h : ∀ p ∈ l, 0 ≤ p.2 ∧ p.2 < 256) : ∀ p ∈ pagesW l, thereB 72 p.f0 = true ∧ p.f1.length = 512 ∧ BytesOk p.f1 := by
  intro p hp
  obtain ⟨q, hq, rfl⟩ := List.mem_map.1 hp
  have h1 := low3_bound q.1
  have h2 := h q (List.mem_of_mem_take hq)
  exact ⟨decide_eq_true (by show 0 ≤ low3 q.1 ∧ low3 q.1 < 72 - 64; omega), List.length_replicate, fun x hx => by rw [(List.mem_replicate.1 hx).2]; exact h2⟩
end Go.Proofs.Ytmghgghheebnjaa.Dis
namespace Go.Proofs.Ytmghgghheebnjaa.Dis
open Go.RowKit Go.Proofs.YtmghgghheebnjaaW.PrintWords Go.Proofs.YtmghgghheebnjaaW.PrintLast Go.Proofs.YtmghgghheebnjaaW.PrintMore Go.Maps Go.Proofs.Ytmghgghheebnjaa.PWalRecords
set_option linter.unusedVariables false
set_option linter.unusedSimpArgs false
/-- A put's page; that at the law's place is cut. -/
def rfP (sz : Int) (i : Nat) (p : Put_) : S58 := ⟨p.1, List.replicate (if (i : Int) = sz % 97 then (sz % 512).toNat else 512) p.2⟩
def rfL (sz : Int) (l : List Put_) (k : Nat) : List S58 := (List.range k).map (fun i => rfP sz i (l.getD i (0, 0)))
def rfB (n sz : Int) (l : List Put_) (k : Nat) : Bool := (rfL sz l k).any (badW n)
theorem rfL_snoc (sz : Int) (l : List Put_) (k : Nat) : rfL sz l (k + 1) = rfL sz l k ++ [rfP sz k (l.getD k (0, 0))] := by
  unfold rfL
  rw [List.range_succ, List.map_append]
  rfl
theorem rfL_len (sz : Int) (l : List Put_) (k : Nat) : (rfL sz l k).length = k := by unfold rfL; simp
theorem rfP_bad (n sz : Int) (k : Nat) (p : Put_) : badW n (rfP sz k p) = (decide ((k : Int) = sz % 97) || (decide (p.1 < 0) || decide (n - 64 ≤ p.1))) := by
  unfold badW rfP thereB
  dsimp only
  rw [List.length_replicate]
  by_cases h1 : (k : Int) = sz % 97
  · have h2 : ¬ (sz % 512).toNat = 512 := by omega
    simp [h1, h2]
  · by_cases h3 : p.1 < 0
    · have h4 : ¬ (0 ≤ p.1 ∧ p.1 < n - 64) := by omega
      simp [h1, h3, h4]
    · by_cases h5 : n - 64 ≤ p.1
      · have h4 : ¬ (0 ≤ p.1 ∧ p.1 < n - 64) := by omega
        simp [h1, h3, h5, h4]
      · have h4 : (0 ≤ p.1 ∧ p.1 < n - 64) := by omega
        simp [h1, h3, h5, h4]
theorem rfB_snoc (n sz : Int) (l : List Put_) (k : Nat) : rfB n sz l (k + 1) = (rfB n sz l k || (decide ((k : Int) = sz % 97) || (decide ((l.getD k (0, 0)).1 < 0) || decide (n - 64 ≤ (l.getD k (0, 0)).1)))) := by
  unfold rfB
  rw [rfL_snoc, List.any_append, List.any_cons, List.any_nil, Bool.or_false, rfP_bad]
theorem rfL_ok {sz : Int} {l : List Put_} {k : Nat} (h : ∀ p ∈ l, OkP p) (hk : k ≤ l.length) : ∀ p ∈ rfL sz l k, BytesOk p.f1 := by
  intro p hp
  obtain ⟨i, hi, rfl⟩ := List.mem_map.1 hp
  have hi' := List.mem_range.1 hi
  have h1 := h (l.getD i (0, 0)) (by rw [List.getD_eq_getElem?_getD, List.getElem?_eq_getElem (by omega)]; exact List.getElem_mem _)
  intro x hx
  rw [(List.mem_replicate.1 hx).2]
  exact h1.2
/-- What is told. -/
def rfW (n sz : Int) (l : List Put_) (k : Nat) : Int := if rfB n sz l k = true then 1 else if 62 < k then 210 else 0
theorem refuse_plain {n sz : Int} (hn : 64 < n) (hn2 : n < 80) {l : List Put_} {k : Nat} (h : ∀ p ∈ l, OkP p) (hk : k ≤ l.length) (hk7 : k ≤ 70) :
    ∃ d' s', commitD (freshD n) 0 (rfL sz l k) = (d', s', rfW n sz l k) ∧ d'.since = [] ∧ d'.n = n ∧ (rfW n sz l k ≠ 0 → d' = freshD n) := by
  unfold commitD rfW
  have hb : (rfL sz l k).any (badW (freshD n).n) = rfB n sz l k := rfl
  rw [hb]
  by_cases h1 : rfB n sz l k = true
  · rw [if_pos h1, if_pos h1]
    exact ⟨_, _, rfl, rfl, rfl, fun _ => rfl⟩
  · rw [if_neg h1, if_neg h1]
    have hall : ∀ p ∈ rfL sz l k, thereB n p.f0 = true ∧ p.f1.length = 512 ∧ BytesOk p.f1 := by
      intro p hp
      have h2 : badW n p = false := by
        unfold rfB at h1
        rw [Bool.not_eq_true, List.any_eq_false] at h1
        exact Bool.eq_false_iff.2 (h1 p hp)
      unfold badW at h2
      rw [Bool.or_eq_false_iff] at h2
      exact ⟨by simpa using h2.1, by simpa using h2.2, rfL_ok h hk p hp⟩
    have hbb : (rfL sz l k).any (fun p => badB p.f0 p.f1.length) = false := by
      rw [List.any_eq_false]
      intro p hp
      have h2 := hall p hp
      have h3 := of_decide_eq_true h2.1
      rw [h2.2.1]
      unfold badB
      simp
      omega
    have hE : recE (0 + 1) (rfL sz l k) = if 62 < k then 210 else 0 := by
      unfold recE
      rw [if_neg (by decide), if_neg (by rw [hbb]; decide), rfL_len]
      by_cases h62 : 62 < k
      · rw [if_pos h62]
        by_cases h64 : 64 < k
        · rw [if_pos h64]
        · rw [if_neg h64, if_pos (by unfold secsN; omega)]
      · rw [if_neg h62, if_neg (by omega), if_neg (by unfold secsN; omega)]
    by_cases h0 : k = 0
    · rw [if_pos (by rw [rfL_len]; exact h0), if_neg (by omega)]
      exact ⟨_, _, rfl, rfl, rfl, fun h => absurd rfl h⟩
    · by_cases h62 : 62 < k
      · rw [if_neg (by rw [rfL_len]; exact h0), if_neg (by decide), if_pos (by rw [hE, if_pos h62]; decide), hE, if_pos h62]
        exact ⟨_, _, rfl, rfl, rfl, fun _ => rfl⟩
      · have hne : rfL sz l k ≠ [] := fun e => h0 (by have := rfL_len sz l k; rw [e] at this; exact this.symm)
        obtain ⟨c, hc, _⟩ := commitD_live (d := freshD n) ⟨rfl, rfl⟩ rfl hn (seq := 0) (by decide) (by decide) hne hall (by rw [hE, if_neg h62])
        unfold commitD at hc
        rw [hb, if_neg h1] at hc
        rw [hc, if_neg h62]
        exact ⟨_, _, rfl, rfl, rfl, fun h => absurd rfl h⟩
end Go.Proofs.Ytmghgghheebnjaa.Dis
namespace Go.Proofs.Ytmghgghheebnjaa.Dis
open Go.RowKit Go.Proofs.YtmghgghheebnjaaW.PrintWords Go.Proofs.YtmghgghheebnjaaW.PrintLast Go.Proofs.YtmghgghheebnjaaW.PrintMore
set_option linter.unusedVariables false
set_option linter.unusedSimpArgs false
/-- What has come up: l0, and of the events those that d tells. -/
def lat : Array Bool → List Nat → List Bool → Array Bool
  | l, e :: es, b :: bs => lat (if b then l.setIfInBounds e true else l) es bs
  | l, _, _ => l
/-- One more event done. -/
def on : List Bool → Nat → List Bool
  | _ :: bs, 0 => true :: bs
  | b :: bs, j + 1 => b :: on bs j
  | [], _ => []
def offs : List Bool → Nat
  | [] => 0
  | b :: bs => (if b then 0 else 1) + offs bs
theorem on_offs : ∀ (d : List Bool) (j : Nat), d.getD j true = false → offs (on d j) + 1 = offs d
  | [], j, h => by simp at h
  | b :: bs, 0, h => by
    have : b = false := by simpa using h
    subst this
    show (if true = true then 0 else 1) + offs bs + 1 = (if false = true then 0 else 1) + offs bs
    simp; omega
  | b :: bs, j + 1, h => by
    have := on_offs bs j (by simpa using h)
    show (if b = true then 0 else 1) + offs (on bs j) + 1 = (if b = true then 0 else 1) + offs bs
    omega
theorem on_at : ∀ (d : List Bool) (j : Nat), j < d.length → (on d j).getD j false = true
  | [], j, h => by simp at h
  | b :: bs, 0, h => rfl
  | b :: bs, j + 1, h => by
    have := on_at bs j (by simpa using h)
    simpa [on] using this
theorem on_ne : ∀ (d : List Bool) (j i : Nat), i ≠ j → (on d j).getD i false = d.getD i false
  | [], j, i, _ => rfl
  | b :: bs, 0, 0, h => absurd rfl h
  | b :: bs, 0, i + 1, h => rfl
  | b :: bs, j + 1, 0, h => rfl
  | b :: bs, j + 1, i + 1, h => by
    have := on_ne bs j i (by omega)
    simpa [on] using this
def okLat (md : Region.Mode) (ops : Array Oper) (l0 : Array Bool) (evs : List Nat) (states : List (List Bool)) : Bool :=
  states.all fun d => (offs d == 0) || (!(Region.ready md ops (lat l0 evs d)).isEmpty && (Region.ready md ops (lat l0 evs d)).all fun i =>
    (List.range evs.length).any fun j => evs.getD j 0 == i && !d.getD j true && states.contains (on d j) && lat l0 evs (on d j) == (lat l0 evs d).setIfInBounds i true)
/-- Wherever event j may come up, event k is done. -/
def after (states : List (List Bool)) (j k : Nat) : Bool := states.all fun d => d.getD j true || !states.contains (on d j) || d.getD k false
theorem after_of {states : List (List Bool)} {j k : Nat} (h : after states j k = true) {d : List Bool} (hd : d ∈ states) (hj : d.getD j true = false) (hn : on d j ∈ states) : d.getD k false = true := by
  have := List.all_eq_true.1 h d hd
  simp only [hj, Bool.false_or, Bool.or_eq_true, Bool.not_eq_true'] at this
  rcases this with h1 | h1
  · rw [List.contains_iff_mem.2 hn] at h1; cases h1
  · exact h1
/-- No event is done behind event j. -/
def before (states : List (List Bool)) (j k : Nat) : Bool := states.all fun d => d.getD j true || !states.contains (on d j) || !d.getD k true
theorem before_of {states : List (List Bool)} {j k : Nat} (h : before states j k = true) {d : List Bool} (hd : d ∈ states) (hj : d.getD j true = false) (hn : on d j ∈ states) : d.getD k true = false := by
  have := List.all_eq_true.1 h d hd
  simp only [hj, Bool.false_or, Bool.or_eq_true, Bool.not_eq_true'] at this
  rcases this with h1 | h1
  · rw [List.contains_iff_mem.2 hn] at h1; cases h1
  · exact h1
theorem bit_abs {d : List Bool} {k : Nat} (h1 : d.getD k true = false) (h2 : d.getD k false = true) : False := by
  rw [List.getD_eq_getElem?_getD] at h1 h2
  cases h : d[k]? with
  | none => rw [h] at h1; cases h1
  | some b => rw [h] at h1 h2; rw [show b = false from h1] at h2; cases h2
section
variable {P : Program} {ops : Array Oper} {Q : Exit → Act → World → Prop} {md : Region.Mode} {S : World → Prop}
theorem lattice (l0 : Array Bool) (evs : List Nat) (states : List (List Bool)) (hok : okLat md ops l0 evs states = true) (Inv : List Bool → Act → World → Prop) (fuel : Nat)
    (hstep : ∀ d j, d ∈ states → d.getD j true = false → on d j ∈ states → ∀ a w, S w → Inv d a w → ∀ o, ops[evs.getD j 0]? = some o → ∀ K : Act → World → Prop, Shut (∀ a' w', S w' → Inv (on d j) a' w' → K a' w') → if Region.wanted o (yielded ops a.tmps) = true then Oper.wp P o a w K Q else K (a.put o.dst undef) w)
    (hfin : ∀ d a w, d ∈ states → offs d = 0 → S w → Inv d a w → wpAnyLast P md ops Q S [] fuel (lat l0 evs d) a w) :
    ∀ (m : Nat) (d : List Bool) (a : Act) (w : World), d ∈ states → offs d = m → S w → Inv d a w → wpAnyLast P md ops Q S [] (fuel + m) (lat l0 evs d) a w := by
  intro m
  induction m with
  | zero => intro d a w hd h0 hS hI; exact hfin d a w hd h0 hS hI
  | succ m ih =>
    intro d a w hd hm hS hI
    have h1 := List.all_eq_true.1 hok d hd
    have h0 : (offs d == 0) = false := by rw [hm]; rfl
    rw [h0, Bool.false_or, Bool.and_eq_true] at h1
    obtain ⟨hne, hall⟩ := h1
    refine ⟨fun h => (by rw [h] at hne; simp at hne), fun i hi => ?_⟩
    obtain ⟨j, hj, hj2⟩ := List.any_eq_true.1 (List.all_eq_true.1 hall i hi)
    simp only [Bool.and_eq_true, beq_iff_eq, Bool.not_eq_true'] at hj2
    obtain ⟨⟨⟨e1, e2⟩, e3⟩, e4⟩ := hj2
    have hmem : on d j ∈ states := List.contains_iff_mem.1 e3
    have hofs := on_offs d j e2
    subst e1
    obtain ⟨o, ho⟩ : ∃ o, ops[evs.getD j 0]? = some o := by
      obtain ⟨_, o, ho, _⟩ := mem_ready.1 hi
      exact ⟨o, ho⟩
    refine wpOp_step ho (fun K hK => hstep d j hd e2 hmem a w hS hI o ho K (fun a' w' hS' hI' => hK a' w' ⟨fun _ _ => hS', ?_⟩))
    rw [← e4]
    exact ih (on d j) a' w' hmem (by omega) hS' hI'
/-- The act with the events' values. -/
def putVs : Act → List Tmp → List Value → Act
  | a, t :: ts, v :: vs => putVs (a.put (some t) v) ts vs
  | a, _, _ => a
theorem put_comm (a : Act) (t u : Tmp) (v x : Value) (h : t ≠ u) : (a.put (some t) v).put (some u) x = (a.put (some u) x).put (some t) v := by
  simp only [Act.put]
  rw [Array.setIfInBounds_comm _ _ h]
theorem put_same (a : Act) (t : Tmp) (v x : Value) : (a.put (some t) v).put (some t) x = a.put (some t) x := by
  simp [Act.put]
theorem put_out : ∀ (ts : List Tmp) (vs : List Value) (a : Act) (t : Tmp) (v : Value), t ∉ ts → (putVs a ts vs).put (some t) v = putVs (a.put (some t) v) ts vs
  | [], vs, a, t, v, _ => by cases vs <;> rfl
  | u :: ts, [], a, t, v, _ => rfl
  | u :: ts, x :: vs, a, t, v, h => by
    show (putVs (a.put (some u) x) ts vs).put (some t) v = putVs ((a.put (some t) v).put (some u) x) ts vs
    rw [put_out ts vs _ t v (fun hm => h (List.mem_cons_of_mem _ hm)), put_comm a u t x v (fun e => h (by rw [e]; exact List.mem_cons_self))]
theorem put_set : ∀ (ts : List Tmp) (vs : List Value) (a : Act) (j : Nat) (t : Tmp) (v : Value), ts.Nodup → vs.length = ts.length → ts[j]? = some t → (putVs a ts vs).put (some t) v = putVs a ts (vs.set j v)
  | [], vs, a, j, t, v, _, _, h => by simp at h
  | u :: ts, [], a, j, t, v, _, hl, _ => by simp at hl
  | u :: ts, x :: vs, a, 0, t, v, hn, hl, h => by
    obtain rfl : u = t := by simpa using h
    show (putVs (a.put (some u) x) ts vs).put (some u) v = putVs (a.put (some u) v) ts vs
    rw [put_out ts vs _ u v (List.nodup_cons.1 hn).1, put_same]
  | u :: ts, x :: vs, a, j + 1, t, v, hn, hl, h => put_set ts vs (a.put (some u) x) j t v (List.nodup_cons.1 hn).2 (by simpa using hl) (by simpa using h)
/-- Each event's place is where its operation puts its value; a store puts none. -/
def okDst (ops : Array Oper) (evs : List Nat) (ts : List Tmp) : Bool := (List.range evs.length).all fun j => match ops[evs.getD j 0]?, ts[j]? with
  | some o, some t => o.dst == some t || o.dst == none
  | _, _ => false
def updO (o : Oper) (xs : List Value) (j : Nat) (v : Value) : List Value := if o.dst.isNone then xs else xs.set j v
theorem lattice2 (l0 : Array Bool) (evs : List Nat) (states : List (List Bool)) (ts : List Tmp) (hok : okLat md ops l0 evs states = true) (hdst : okDst ops evs ts = true) (hnd : ts.Nodup) (hlen : states.all (fun d => d.length == evs.length) = true) (F : List Bool → List Value → World → Prop) (fuel : Nat) {a0 : Act}
    (hstep : ∀ j, j < evs.length → ∀ d, d ∈ states → d.getD j true = false → on d j ∈ states → ∀ xs w, xs.length = ts.length → S w → F d xs w → ∀ a, a = putVs a0 ts xs → ∀ o, ops[evs.getD j 0]? = some o → ∀ K : Act → World → Prop, Shut (∀ v w', S w' → F (on d j) (updO o xs j v) w' → K (a.put o.dst v) w') → if Region.wanted o (yielded ops a.tmps) = true then Oper.wp P o a w K Q else K (a.put o.dst undef) w)
    (hfin : ∀ d xs a w, d ∈ states → offs d = 0 → xs.length = ts.length → S w → F d xs w → a = putVs a0 ts xs → wpAnyLast P md ops Q S [] fuel (lat l0 evs d) a w)
    (m : Nat) (d : List Bool) (xs : List Value) (w : World) (hd : d ∈ states) (hm : offs d = m) (hx : xs.length = ts.length) (hS : S w) (hF : F d xs w) : wpAnyLast P md ops Q S [] (fuel + m) (lat l0 evs d) (putVs a0 ts xs) w := by
  refine lattice l0 evs states hok (fun d a w => ∃ xs, xs.length = ts.length ∧ a = putVs a0 ts xs ∧ F d xs w) fuel ?_ ?_ m d _ w hd hm hS ⟨xs, hx, rfl, hF⟩
  · intro d j hd hj hn a w hS ⟨xs, hx, ha, hF⟩ o ho K hK
    have hdl : d.length = evs.length := by simpa using List.all_eq_true.1 hlen d hd
    have hjl : j < evs.length := by
      rcases Nat.lt_or_ge j evs.length with h | h
      · exact h
      · rw [List.getD_eq_getElem?_getD, List.getElem?_eq_none (by omega)] at hj
        cases hj
    have hdt := List.all_eq_true.1 hdst j (List.mem_range.2 hjl)
    rw [ho] at hdt
    obtain ⟨t, ht⟩ : ∃ t, ts[j]? = some t := by
      cases h : ts[j]? with
      | none => rw [h] at hdt; cases hdt
      | some t => exact ⟨t, rfl⟩
    rw [ht] at hdt
    have hod : o.dst = some t ∨ o.dst = none := by simpa using hdt
    refine hstep j hjl d hd hj hn xs w hx hS hF a ha o ho K (fun v w' hS' hF' => ?_)
    rcases hod with hod | hod
    · have hu : updO o xs j v = xs.set j v := by unfold updO; rw [hod]; rfl
      rw [hu] at hF'
      refine hK _ _ hS' ⟨xs.set j v, by rw [List.length_set]; exact hx, ?_, hF'⟩
      rw [hod, ha]
      exact put_set ts xs a0 j t v hnd hx ht
    · have hu : updO o xs j v = xs := by unfold updO; rw [hod]; rfl
      rw [hu] at hF'
      refine hK _ _ hS' ⟨xs, hx, ?_, hF'⟩
      rw [hod, ha]
      rfl
  · intro d a w hd h0 hS ⟨xs, hx, ha, hF⟩
    exact hfin d xs a w hd h0 hx hS hF ha
theorem offs_no : ∀ n, offs (List.replicate n false) = n
  | 0 => rfl
  | n + 1 => by
    show (if false = true then 0 else 1) + offs (List.replicate n false) = n + 1
    rw [offs_no n]
    simp
    omega
theorem put_self (a : Act) (t : Tmp) : a.put (some t) (a.tmps.getD t undef) = a := by
  obtain ⟨tmps, defers⟩ := a
  simp only [Act.put]
  congr 1
  apply Array.ext_getElem?
  intro i
  rw [Array.getElem?_setIfInBounds]
  by_cases h : t = i
  · subst h
    rw [if_pos rfl]
    by_cases h2 : t < tmps.size
    · rw [if_pos h2]; simp [h2]
    · rw [if_neg h2]; exact (Array.getElem?_eq_none (Nat.le_of_not_lt h2)).symm
  · rw [if_neg h]
theorem putVs_self : ∀ (ts : List Tmp) (a : Act), putVs a ts (ts.map fun t => a.tmps.getD t undef) = a
  | [], a => rfl
  | t :: ts, a => by
    show putVs (a.put (some t) (a.tmps.getD t undef)) ts (ts.map fun t => a.tmps.getD t undef) = a
    rw [put_self]
    exact putVs_self ts a
theorem lattice3 (l0 : Array Bool) (evs : List Nat) (states : List (List Bool)) (ts : List Tmp) (hok : okLat md ops l0 evs states = true) (hdst : okDst ops evs ts = true) (hnd : ts.Nodup) (hlen : states.all (fun d => d.length == evs.length) = true)
    (hfull : states.all (fun d => !(offs d == 0) || d == List.replicate evs.length true) = true) (hst : states.contains (List.replicate evs.length false) = true) (F : List Bool → List Value → World → Prop) (fuel : Nat) {n : Nat} {l : Array Bool} {a : Act} {w : World} (hn : n = fuel + evs.length) (hl : (lat l0 evs (List.replicate evs.length false) == l) = true)
    (hS : S w) (hF : ∀ xs, xs.length = ts.length → F (List.replicate evs.length false) xs w)
    (hstep : ∀ j, j < evs.length → ∀ d, d ∈ states → d.getD j true = false → on d j ∈ states → ∀ xs w, xs.length = ts.length → S w → F d xs w → ∀ a', a' = putVs a ts xs → ∀ o, ops[evs.getD j 0]? = some o → ∀ K : Act → World → Prop, Shut (∀ v w', S w' → F (on d j) (updO o xs j v) w' → K (a'.put o.dst v) w') → if Region.wanted o (yielded ops a'.tmps) = true then Oper.wp P o a' w K Q else K (a'.put o.dst undef) w)
    (hfin : ∀ xs w', xs.length = ts.length → S w' → F (List.replicate evs.length true) xs w' → ∀ a', a' = putVs a ts xs → wpAnyLast P md ops Q S [] fuel (lat l0 evs (List.replicate evs.length true)) a' w') : wpAnyLast P md ops Q S [] n l a w := by
  subst hn
  rw [← eq_of_beq hl]
  have h := lattice2 (a0 := a) l0 evs states ts hok hdst hnd hlen F fuel hstep (fun d xs a' w' hd h0 hx hS hF ha => by
    have := List.all_eq_true.1 hfull d hd
    rw [h0] at this
    have hd2 : d = List.replicate evs.length true := by simpa using this
    subst hd2
    exact hfin xs w' hx hS hF a' ha) evs.length (List.replicate evs.length false) (ts.map fun t => a.tmps.getD t undef) w (List.contains_iff_mem.1 hst) (offs_no _) (by simp) hS (hF _ (by simp))
  rw [putVs_self] at h
  exact h
end
end Go.Proofs.Ytmghgghheebnjaa.Dis
namespace Go.Proofs.Ytmghgghheebnjaa.Dis
open Go.RowKit Go.Proofs.YtmghgghheebnjaaW.PrintWords Go.Proofs.YtmghgghheebnjaaW.PrintLast Go.Proofs.YtmghgghheebnjaaW.PrintMore Go.Maps Go.Proofs.Ytmghgghheebnjaa.PWalRecords
set_option linter.unusedVariables false
set_option linter.unusedSimpArgs false
/-- A row stays when a box of type 58 turns. -/
theorem R_set58 {α : Type} {d : Kd α} {e base : Nat} {w : World} {ok : Nat → Prop} {v : Value} {xs : List α} {g : Nat} {cs : Array Value} (h : d.R e w base ok v xs) (hg : w.heap[g]? = some (.cells cs 58 (0, 0))) (ht : ∀ q, q ∈ e :: d.E → q ≠ 58) (j : Nat) (u : Value) : d.R e (w.setCell ⟨g, j, none⟩ u) base ok v xs :=
  Kd.R_mono (Kd.R_move (Kd.R_bound h) (fun k hb => by
    obtain ⟨_, _, _, q, hq, cs', hc⟩ := hb
    have hne : k ≠ g := by rintro rfl; rw [hg] at hc; injection hc with hc; injection hc with _ hc _; exact ht q hq hc.symm
    exact Below.heap_setCell w ⟨g, j, none⟩ u k hne)) (fun _ hb => hb.1)
theorem cell_stay {w w1 : World} {p : Addr} {v : Value} (h : w.cell? p = some v) (hb : Below w.heap.size w w1) : w1.cell? p = some v := (hb.cell (World.block_lt_of_cell? w p h)).trans h
theorem byte58 : ∀ q, q ∈ 5 :: byteK.E → q ≠ 58 := by intro q hq; simp [Kd.int, Kd.scalar] at hq; omega
set_option maxHeartbeats 32000000 in
set_option maxRecDepth 100000 in
theorem refuse_calls (W : World) (l : List Put_) (A : Option Addr) (ca : Nat) (sx sz : Int) (hC : Kd.C putK W A l.length l) (hca : l.length ≤ ca) (hok : ∀ p ∈ l, OkP p) (hs0 : 0 ≤ sx) (hs1 : sx < 256) (hz0 : 0 ≤ sz) (hz1 : sz < 65536) :
    Calls Try.prog 6 #[.slice A l.length ca, .int .u8 sx, .int .u16 sz] W fun e w' => e = .returned (.bool true) ∧ Below W.heap.size W w' := by
  obtain ⟨nl, hnl⟩ : ∃ nl, nl = l.length := ⟨_, rfl⟩
  have hmx : nl ≤ 9223372036854775807 := by rw [hnl]; exact hC.2.1
  rw [← hnl] at hC hca ⊢
  have HC := Aside0.mk hC
  have HNL := Aside0.mk hnl
  have HOK := Aside0.mk hok
  have INF8 := Aside0.mk info58'
  have INF5 := Aside0.mk info5
  obtain ⟨n, hn⟩ : ∃ n : Nat, n = (sx % 80).toNat := ⟨_, rfl⟩
  have esx : Int.tmod sx 80 = (n : Int) := by rw [Int.tmod_eq_emod_of_nonneg hs0]; omega
  have hnb : n < 80 := by omega
  have es97 : Int.tmod sz 97 = sz % 97 := Int.tmod_eq_emod_of_nonneg hz0
  obtain ⟨mz, hmz⟩ : ∃ mz : Nat, mz = (sz % 512).toNat := ⟨_, rfl⟩
  have es512 : Int.tmod sz 512 = (mz : Int) := by rw [Int.tmod_eq_emod_of_nonneg hz0]; omega
  have hmzb : mz ≤ 512 := by omega
  have HMZ := Aside0.mk hmz
  have hz97 : 0 ≤ sz % 97 ∧ sz % 97 < 97 := by omega
  clear hC hnl hok hn hmz
  go_enter Try.func6, Try.ntmps6
  go_upto_region 3 with (go_at_call 16; refine (new_calls (n : Int) W).mono ?_; rintro e w1 ⟨g, rfl, h1, h2, h3⟩; rw [new_fresh (by omega) (by omega)] at h1; have HD1 := Aside0.mk h1; have HB1 := Aside0.mk h3; clear h1 h2 h3)
  by_cases h65 : n < 65
  · have f1 : decide ((n : Int) < 65) = true := decide_eq_true (by omega)
    have ho : openD (freshD n) = (freshD n, 0, 8) := by unfold openD; rw [if_pos (show (freshD n).n ≤ 64 by show (n : Int) ≤ 64; omega)]
    have HO := Aside0.mk ho
    clear ho h65
    go_upto_region 4 with (go_at_call 17; refine (open_c W.heap.size g (freshD n) W w1 HD1.out HB1.out (Nat.le_refl _) (by show 0 + 100 < 1000000; decide)).mono ?_; rintro e w6 ⟨v6, rfl, h1, h2, h3, h4, _⟩; rw [HO.out] at h4 ⊢; obtain rfl := h4 (show (8 : Int) ≠ 0 by decide); have HB6 := Aside0.mk h2; clear h1 h2 h3 h4)
    go_wp2_with (go_at_call 15; refine (lives_c w6).mono ?_; rintro e w20 ⟨rfl, h1⟩; have HB20 := Aside0.mk (HB6.out.trans (h1.mono HB6.out.size)); clear h1)
    go_ret
    exact ⟨rfl, HB20.out⟩
  · have f1 : decide ((n : Int) < 65) = false := decide_eq_false (by omega)
    have HO := Aside0.mk (open_fresh (n := (n : Int)) (by omega))
    go_upto_region 4 with (go_at_call 17; refine (open_c W.heap.size g (freshD n) W w1 HD1.out HB1.out (Nat.le_refl _) (by show 0 + 100 < 1000000; decide)).mono ?_; rintro e w6 ⟨v6, rfl, h1, h2, h3, _, h5⟩; rw [HO.out] at h1 h5 ⊢; obtain ⟨gw, rfl, hg, hw⟩ := h5 rfl; have HD6 := Aside0.mk h1; have HB6 := Aside0.mk h2; have HW6 := Aside0.mk hw; have HG6 := Aside0.mk (show W.heap.size ≤ gw from Nat.le_trans HB1.out.size hg); clear h1 h2 h3 h5 hg hw)
    go_upto_region 9 with ((with_reducible refine gate_dst (N := 45) rfl ?_); refine Kd.R_lit k58 (w0 := W) W.heap.size 58 ?hg (N := 45) ?hd (xs := ([] : List S58)) (inner := []) (ok := tt) (okp := tt) ?hr ?hp (fun _ hk => hk) trivial HB6.out HB6.out.size (by simp) ?_; (case hd => rfl); (case hg => rfl); (case hr => first | (go_simp; done) | (go_simp; rfl)); (case hp => exact (Reps.none _ _)); intro v7 w7 ho hb hg_ hnew_; have HO7 := Aside0.mk ho; have HB7 := Aside0.mk hb; have HG7 := Aside0.mk hg_; clear hb ho hg_ hnew_)
    have HD7 := Aside0.mk (HD6.out.grown HG7.out (fun k e => by cases e))
    have HW7 := Aside0.mk (show IsWl w7 gw g 0 from (HG7.out.block gw (blk_lt HW6.out) (by simp)).trans HW6.out)
    go_wp2_with fail
    go_loopw [11, 12, 13] (fun y b x wr => ∃ (k : Nat), k ≤ nl ∧ k ≤ 70 ∧ x = .int .i64 k ∧ b = .bool (rfB n sz l k) ∧ Aside0 (Kd.R k58 58 wr W.heap.size tt y (rfL sz l k)) ∧ Aside0 (IsD W.heap.size wr g (freshD n)) ∧ Aside0 (IsWl wr gw g 0) ∧ Aside0 (Below W.heap.size W wr)) (fun _ _ x _ => 70 - (intOf x).toNat)
    case atStart => exact ⟨0, Nat.zero_le _, Nat.zero_le _, rfl, rfl, HO7, HD7, HW7, HB7⟩
    case round =>
      obtain ⟨k, hk, hk7, rfl, rfl, HRk, HDk, HWk, HBk⟩ := hrel
      by_cases hlt : k < nl
      · have f2 : decide ((k : Int) < nl) = true := decide_eq_true (by omega)
        by_cases hlt2 : k < 70
        · have f3 : decide ((k : Int) < 70) = true := decide_eq_true (by omega)
          obtain ⟨ad, hA, p0, p1⟩ := atPut HC.out k hlt
          subst hA
          obtain ⟨yA, yc, hy⟩ := Kd.R_slice HRk.out
          subst hy
          rw [rfL_len] at HRk ⊢
          have HSN := Aside0.mk (And.intro (rfL_snoc sz l k) (rfB_snoc n sz l k))
          obtain ⟨p, hp⟩ : ∃ p, p = l.getD k (0, 0) := ⟨_, rfl⟩
          rw [← hp] at p0 p1 HSN
          have hOP := HOK.out (l.getD k (0, 0)) (by rw [List.getD_eq_getElem?_getD, List.getElem?_eq_getElem (by rw [← HNL.out]; exact hlt)]; exact List.getElem_mem _)
          rw [← hp] at hOP
          clear hp
          obtain ⟨no, cc⟩ := p
          dsimp only at p0 p1
          have hOP1 : -9223372036854775808 ≤ no ∧ no ≤ 9223372036854775807 := hOP.1
          have HPA := Aside0.mk (show ∀ w', Below W.heap.size W w' → w'.cell? (ad.add (k * 2)) = some (.int .i64 no) ∧ w'.cell? ⟨(ad.add (k * 2)).block, (ad.add (k * 2)).off + 1, none⟩ = some (.int .u8 cc) from fun w' hb => ⟨cell_stay p0 hb, cell_stay p1 hb⟩)
          have HLTR := Aside0.mk (Kd.R_lt HRk.out)
          have HWS := Aside0.mk HBk.out.size
          clear p0 p1 hOP
          go_upto_region 12 with fail
          have hdr : Below wr.heap.size wr wr.drew := below_drew (Below.refl _ _)
          refine start_ (n := 13) (S := fun w' => Below wr.heap.size wr w') (ds := []) #[false, false, false, false, false, false, false, false, false, false, false, false, false] (by kernel_rfl) rfl rfl hdr (fun hHeld => ?_)
          clear hdr
          refine pure_ (i := 0) (N := some 56) (v := ?_) (a' := ?_) #[true, false, false, false, false, false, false, false, false, false, false, false, false] rfl rfl (by kernel_rfl) (fun _ _ _ h => h) (Or.inl ⟨by rfl, ?_⟩) ?_ ?_
          rotate_left
          · intro w'
            go_simp
            with_reducible rfl
          rotate_left
          · simp only [Act.put, List.setIfInBounds_toArray, List.set_cons_zero, List.set_cons_succ]
            rfl
          refine pure_ (i := 1) (N := some 57) (v := ?_) (a' := ?_) #[true, true, false, false, false, false, false, false, false, false, false, false, false] rfl rfl (by kernel_rfl) (fun _ _ _ h => h) (Or.inl ⟨by rfl, ?_⟩) ?_ ?_
          rotate_left
          · intro w'
            go_simp
            with_reducible rfl
          rotate_left
          · simp only [Act.put, List.setIfInBounds_toArray, List.set_cons_zero, List.set_cons_succ]
            rfl
          refine pure_ (i := 2) (N := some 58) (v := .pointer (some (ad.add (k * 2)))) (a' := ?_) #[true, true, true, false, false, false, false, false, false, false, false, false, false] rfl rfl (by kernel_rfl) (fun _ _ _ h => h) (Or.inl ⟨by rfl, ?_⟩) ?_ ?_
          · intro w'
            first | (go_simp; done) | (go_simp; rw [if_pos (show k < nl by omega)])
          rotate_left
          · simp only [Act.put, List.setIfInBounds_toArray, List.set_cons_zero, List.set_cons_succ]
            rfl
          refine pure_ (i := 3) (N := some 59) (v := ?_) (a' := ?_) #[true, true, true, true, false, false, false, false, false, false, false, false, false] rfl rfl (by kernel_rfl) (fun _ _ _ h => h) (Or.inl ⟨by rfl, ?_⟩) ?_ ?_
          rotate_left
          · intro w'
            go_simp
            with_reducible rfl
          rotate_left
          · simp only [Act.put, List.setIfInBounds_toArray, List.set_cons_zero, List.set_cons_succ]
            rfl
          refine take_ (i := 4) (N := some 60) (v := ?_) (a' := ?_) #[true, true, true, true, true, false, false, false, false, false, false, false, false] rfl rfl (by kernel_rfl) (fun _ _ _ h => h) (Or.inl ⟨by rfl, ?_⟩) hHeld ?_ ?_
          rotate_left
          · intro w' s0
            have s1 := (HPA.out w' (HBk.out.trans (s0.mono HBk.out.size))).1
            go_simp
            with_reducible rfl
          rotate_left
          · simp only [Act.put, List.setIfInBounds_toArray, List.set_cons_zero, List.set_cons_succ]
            rfl
          refine pure_ (i := 5) (N := some 61) (v := ?_) (a' := ?_) #[true, true, true, true, true, true, false, false, false, false, false, false, false] rfl rfl (by kernel_rfl) (fun _ _ _ h => h) (Or.inl ⟨by rfl, ?_⟩) ?_ ?_
          rotate_left
          · intro w'
            go_simp
            with_reducible rfl
          rotate_left
          · simp only [Act.put, List.setIfInBounds_toArray, List.set_cons_zero, List.set_cons_succ]
            rfl
          refine pure_ (i := 6) (N := some 62) (v := ?_) (a' := ?_) #[true, true, true, true, true, true, true, false, false, false, false, false, false] rfl rfl (by kernel_rfl) (fun _ _ _ h => h) (Or.inl ⟨by rfl, ?_⟩) ?_ ?_
          rotate_left
          · intro w'
            go_simp
            with_reducible rfl
          rotate_left
          · simp only [Act.put, List.setIfInBounds_toArray, List.set_cons_zero, List.set_cons_succ]
            rfl
          refine pure_ (i := 7) (N := some 63) (v := .pointer (some (ad.add (k * 2)))) (a' := ?_) #[true, true, true, true, true, true, true, true, false, false, false, false, false] rfl rfl (by kernel_rfl) (fun _ _ _ h => h) (Or.inl ⟨by rfl, ?_⟩) ?_ ?_
          · intro w'
            first | (go_simp; done) | (go_simp; rw [if_pos (show k < nl by omega)])
          rotate_left
          · simp only [Act.put, List.setIfInBounds_toArray, List.set_cons_zero, List.set_cons_succ]
            rfl
          refine pure_ (i := 8) (N := some 64) (v := ?_) (a' := ?_) #[true, true, true, true, true, true, true, true, true, false, false, false, false] rfl rfl (by kernel_rfl) (fun _ _ _ h => h) (Or.inl ⟨by rfl, ?_⟩) ?_ ?_
          rotate_left
          · intro w'
            go_simp
            with_reducible rfl
          rotate_left
          · simp only [Act.put, List.setIfInBounds_toArray, List.set_cons_zero, List.set_cons_succ]
            rfl
          refine take_ (i := 9) (N := some 65) (v := ?_) (a' := ?_) #[true, true, true, true, true, true, true, true, true, true, false, false, false] rfl rfl (by kernel_rfl) (fun _ _ _ h => h) (Or.inl ⟨by rfl, ?_⟩) hHeld ?_ ?_
          rotate_left
          · intro w' s0
            have s1 := (HPA.out w' (HBk.out.trans (s0.mono HBk.out.size))).2
            go_simp
            with_reducible rfl
          rotate_left
          · simp only [Act.put, List.setIfInBounds_toArray, List.set_cons_zero, List.set_cons_succ]
            rfl
          refine lattice3 (l0 := #[true, true, true, true, true, true, true, true, true, true, false, false, false]) [10, 11] [[false, false], [true, false], [false, true], [true, true]] [66, 14] (by kernel_rfl) (by kernel_rfl) (by decide) (by kernel_rfl) (by kernel_rfl) (by kernel_rfl) (fun d xs w' => ∃ x0 x1, xs = [x0, x1] ∧ (d.getD 0 false = true → ∃ A5 c5, x0 = .agg #[.int .i64 no, .slice A5 512 c5] ∧ Kd.R byteK 5 w' wr.heap.size tt (.slice A5 512 c5) (List.replicate 512 cc)) ∧ (d.getD 1 false = true → ∃ q, x1 = .pointer (some ⟨q, 0, none⟩) ∧ w'.heap[q]? = some (.cells #[.int .i64 0, .slice none 0 0] 58 (0, 0)) ∧ wr.heap.size ≤ q)) 1 rfl (by kernel_rfl) hHeld ?hF ?hstep ?hfin
          case hF =>
            intro xs hx
            match xs, hx with
            | [x0, x1], _ => exact ⟨x0, x1, rfl, fun h => absurd h (by decide), fun h => absurd h (by decide)⟩
          case hstep =>
            intro j hj
            have hj : j < 2 := hj
            rcases (by omega : j = 0 ∨ j = 1) with rfl | rfl
            · intro d hd hjn hn xs wl hx hSl ⟨x0, x1, hxs, fc, fp⟩ a' ha o ho K hK
              subst hxs
              obtain rfl := Option.some.inj (ho.symm.trans (rfl : _ = some _))
              simp only [putVs, Act.put, List.setIfInBounds_toArray, List.set_cons_zero, List.set_cons_succ] at ha
              subst ha
              refine goes_ Try.func25 (by kernel_rfl) rfl #[.int .i64 no, .int .u8 cc] (by rfl) rfl rfl (by (try simp only [List.map_toArray, List.map_cons, List.map_nil]); first | done | rfl) ?_
              refine (page_c wl no cc).mono ?_
              rintro e w5 ⟨A5, c5, rfl, h1, hb1⟩
              have hR5 := Kd.R_lower h1 hSl.size
              refine ⟨_, rfl, ?_⟩
              exact hK.out _ w5 (hSl.trans (hb1.mono hSl.size)) ⟨_, _, rfl, fun h0 => ⟨A5, c5, rfl, hR5⟩, fun h1 => (by obtain ⟨q, e6, h6, h7⟩ := (fp ((on_ne d 0 1 (by decide)).symm.trans h1)); exact ⟨q, e6, blk_below h6 hb1, h7⟩)⟩
            · intro d hd hjn hn xs wl hx hSl ⟨x0, x1, hxs, fc, fp⟩ a' ha o ho K hK
              subst hxs
              obtain rfl := Option.some.inj (ho.symm.trans (rfl : _ = some _))
              simp only [putVs, Act.put, List.setIfInBounds_toArray, List.set_cons_zero, List.set_cons_succ] at ha
              subst ha
              have hb1 : Below wl.heap.size wl (wl.alloc (.cells #[.int .i64 0, .slice none 0 0] 58)) := below_alloc (Below.refl _ _) _
              refine value_ rfl rfl (v := .pointer (some ⟨wl.heap.size, 0, none⟩)) (w1 := wl.alloc (.cells #[.int .i64 0, .slice none 0 0] 58)) (by first | (go_simp; done) | (go_simp; rfl)) ?_
              exact hK.out _ _ (hSl.trans (hb1.mono hSl.size)) ⟨_, _, rfl, fun h0 => (by obtain ⟨A6, c6, e6, h6⟩ := (fc ((on_ne d 1 0 (by decide)).symm.trans h0)); exact ⟨A6, c6, e6, Kd.R_below h6 hb1⟩), fun h1 => ⟨_, rfl, blk_new wl _, hSl.size⟩⟩
          case hfin =>
            intro xs wl hx hSl ⟨x0, x1, hxs, fc, fp⟩ a' ha
            subst hxs
            simp only [putVs, Act.put, List.setIfInBounds_toArray, List.set_cons_zero, List.set_cons_succ] at ha
            subst ha
            have gc := fc (by decide)
            have gp := fp (by decide)
            clear fc fp
            obtain ⟨A5, c5, rfl, hR5⟩ := gc
            obtain ⟨q, rfl, hq, hwq⟩ := gp
            have hHeld := hSl
            have hf0 := blk_frozen hq 0
            have hf1 := blk_frozen hq 1
            have hq1 := blk_put hq 0 (Value.int .i64 no) (rfl : _ = (#[Value.int .i64 no, Value.slice none 0 0] : Array Value))
            have hq2 := blk_put hq1 1 (Value.slice A5 512 c5) (rfl : _ = (#[Value.int .i64 no, Value.slice A5 512 c5] : Array Value))
            have hx0 : wl.cell? ⟨q, 0, none⟩ = some (.int .i64 0) := (blk_cell hq 0).trans rfl
            have hx1 : wl.cell? ⟨q, 1, none⟩ = some (.slice none 0 0) := (blk_cell hq 1).trans rfl
            have hR7 := R_set58 (R_set58 hR5 hq byte58 0 (Value.int .i64 no)) hq1 byte58 1 (Value.slice A5 512 c5)
            have hS7 : Below wr.heap.size wr ((wl.setCell ⟨q, 0, none⟩ (.int .i64 no)).setCell ⟨q, 1, none⟩ (.slice A5 512 c5)) := (hSl.setCell hwq _).setCell hwq _
            refine one_ (i := 12) (N := none) #[true, true, true, true, true, true, true, true, true, true, true, true, true] rfl rfl (by kernel_rfl) (by decide) (fun K1 hK => ?_)
            refine skip_ rfl rfl (w1 := (wl.setCell ⟨q, 0, none⟩ (.int .i64 no)).setCell ⟨q, 1, none⟩ (.slice A5 512 c5)) (by first | (go_simp; done) | (go_simp; rfl)) ?_
            refine hK.out _ _ hS7 (fun hHeld => ?_)
            clear hK K1 
            refine done_ (by kernel_rfl) ?_
            clear hHeld hf0 hf1 hx0 hx1 hq hq1 hR5 hSl
            generalize (wl.setCell ⟨q, 0, none⟩ (.int .i64 no)).setCell ⟨q, 1, none⟩ (.slice A5 512 c5) = w7' at hq2 hR7 hS7 ⊢
            have HR7 := Aside0.mk hR7
            have HS7 := Aside0.mk hS7
            have HQ7 := Aside0.mk hq2
            have HWQ := Aside0.mk hwq
            have b1 : w7'.cell? ⟨q, 1, none⟩ = some (.slice A5 512 c5) := (blk_cell hq2 1).trans rfl
            have b1f := blk_frozen hq2 1
            clear hR7 hS7 hq2 hwq
            have hc5 : 512 ≤ c5 := (Kd.R_reads' HR7.out).2.1
            by_cases h97 : (k : Int) = sz % 97
            · have f4 : ((k : Int) == sz % 97) = true := by simp [h97]
              go_upto_region 15 with fail
              obtain ⟨w8, hw8⟩ : ∃ w8, w8 = w7'.setCell ⟨q, 1, none⟩ (.slice A5 mz c5) := ⟨_, rfl⟩
              have hq8 := blk_put HQ7.out 1 (Value.slice A5 mz c5) (rfl : _ = (#[Value.int .i64 no, Value.slice A5 mz c5] : Array Value))
              have hr8 := R_set58 (Kd.R_take HR7.out (m := mz) (by rw [List.length_replicate]; exact hmzb)) HQ7.out byte58 1 (Value.slice A5 mz c5)
              rw [List.take_replicate, Nat.min_eq_left hmzb] at hr8
              have hs8 := HS7.out.setCell (p := ⟨q, 1, none⟩) HWQ.out (.slice A5 mz c5)
              rw [← hw8] at hq8 hr8 hs8 ⊢
              clear hw8 b1 b1f
              have HQ8 := Aside0.mk (show w8.heap[q]? = some (.cells #[.int .i64 no, .slice A5 mz c5] 58 (0, 0)) from hq8)
              have HRW8 := Aside0.mk (show Kd.R byteK 5 w8 wr.heap.size tt (.slice A5 mz c5) (List.replicate mz cc) from hr8)
              have HS8 := Aside0.mk hs8
              have HBW8 := Aside0.mk (HBk.out.trans (hs8.mono HBk.out.size))
              have HR8 := Aside0.mk (Kd.R_below HRk.out hs8)
              have HD8 := Aside0.mk (HDk.out.below hs8)
              have HW8 := Aside0.mk (HWk.out.below hs8)
              have HV8 := Aside0.mk (Kd.R_lower (Kd.R_mono (ok' := fun q => wr.heap.size ≤ q) (Kd.R_bound hr8) (fun q hq => hq.2.1)) HWS.out)
              have c0 : w8.cell? (ad.add (k * 2)) = some (.int .i64 no) := (HPA.out w8 HBW8.out).1
              have b2 : w8.cell? ⟨q, 0, none⟩ = some (.int .i64 no) := (blk_cell hq8 0).trans rfl
              have b3 : w8.cell? ⟨q, 1, none⟩ = some (.slice A5 mz c5) := (blk_cell hq8 1).trans rfl
              clear hq8 hr8 hs8
              go_upto_region 11 with ((with_reducible refine gate_dst (N := 101) rfl ?_); at_builtin; refine Kd.R_append k58 (w0 := W) (W := w8) W.heap.size rfl (.tmp 98) (.tmp 100) 23 58 (.agg #[.int .i64 0, .slice none 0 0]) 32 rfl Try.underlying23 INF8.out rfl (by decide) (by decide) (.slice yA k yc) (rfL sz l k) ⟨no, List.replicate mz cc⟩ [.int .i64 no, .slice A5 mz c5] tt (fun q => wr.heap.size ≤ q) rfl rfl (k58_mkM w8 W.heap.size (fun q => wr.heap.size ≤ q) ⟨no, List.replicate mz cc⟩ HV8.out) (fun q hq => ⟨trivial, fun e => Nat.not_lt.2 hq (HLTR.out q e.symm)⟩) (fun _ _ => trivial) HR8.out HBW8.out HBW8.out.size ?hl ?_; (case hl => rw [rfL_len]; omega); intro v9 w9 ho hb hG hat; have HO9 := Aside0.mk ho; have HB9 := Aside0.mk hb; have HG9 := Aside0.mk hG; clear ho hb hG hat)
              go_wp2
              go_roundw
              case rel => exact ⟨k + 1, by omega, by omega, by go_num, by rw [HSN.out.2, decide_eq_true h97]; simp, ⟨by rw [HSN.out.1, show rfP sz k (no, cc) = ⟨no, List.replicate mz cc⟩ by unfold rfP; rw [if_pos h97, ← HMZ.out]]; exact HO9.out⟩, ⟨HD8.out.grown HG9.out (row_typed HR8.out (by decide) (by decide))⟩, ⟨(HG9.out.block gw (blk_lt HW8.out) (Kd.R_ne HR8.out HW8.out (by decide))).trans HW8.out⟩, HB9⟩
              case measure => simp [intOf]; omega
            · have f4 : ((k : Int) == sz % 97) = false := by simp [h97]
              obtain ⟨w8, hw8⟩ : ∃ w8, w8 = w7' := ⟨_, rfl⟩
              have hq8 := HQ7.out
              have hr8 := HR7.out
              have hs8 := HS7.out
              rw [← hw8] at hq8 hr8 hs8 ⊢
              clear hw8 b1 b1f
              have HQ8 := Aside0.mk (show w8.heap[q]? = some (.cells #[.int .i64 no, .slice A5 512 c5] 58 (0, 0)) from hq8)
              have HRW8 := Aside0.mk (show Kd.R byteK 5 w8 wr.heap.size tt (.slice A5 512 c5) (List.replicate 512 cc) from hr8)
              have HS8 := Aside0.mk hs8
              have HBW8 := Aside0.mk (HBk.out.trans (hs8.mono HBk.out.size))
              have HR8 := Aside0.mk (Kd.R_below HRk.out hs8)
              have HD8 := Aside0.mk (HDk.out.below hs8)
              have HW8 := Aside0.mk (HWk.out.below hs8)
              have HV8 := Aside0.mk (Kd.R_lower (Kd.R_mono (ok' := fun q => wr.heap.size ≤ q) (Kd.R_bound hr8) (fun q hq => hq.2.1)) HWS.out)
              have c0 : w8.cell? (ad.add (k * 2)) = some (.int .i64 no) := (HPA.out w8 HBW8.out).1
              have b2 : w8.cell? ⟨q, 0, none⟩ = some (.int .i64 no) := (blk_cell hq8 0).trans rfl
              have b3 : w8.cell? ⟨q, 1, none⟩ = some (.slice A5 512 c5) := (blk_cell hq8 1).trans rfl
              clear hq8 hr8 hs8
              by_cases hbd : rfB n sz l k = true
              · rw [hbd] at HSN ⊢
                go_upto_region 11 with ((with_reducible refine gate_dst (N := 101) rfl ?_); at_builtin; refine Kd.R_append k58 (w0 := W) (W := w8) W.heap.size rfl (.tmp 98) (.tmp 100) 23 58 (.agg #[.int .i64 0, .slice none 0 0]) 32 rfl Try.underlying23 INF8.out rfl (by decide) (by decide) (.slice yA k yc) (rfL sz l k) ⟨no, List.replicate 512 cc⟩ [.int .i64 no, .slice A5 512 c5] tt (fun q => wr.heap.size ≤ q) rfl rfl (k58_mkM w8 W.heap.size (fun q => wr.heap.size ≤ q) ⟨no, List.replicate 512 cc⟩ HV8.out) (fun q hq => ⟨trivial, fun e => Nat.not_lt.2 hq (HLTR.out q e.symm)⟩) (fun _ _ => trivial) HR8.out HBW8.out HBW8.out.size ?hl ?_; (case hl => rw [rfL_len]; omega); intro v9 w9 ho hb hG hat; have HO9 := Aside0.mk ho; have HB9 := Aside0.mk hb; have HG9 := Aside0.mk hG; clear ho hb hG hat)
                go_wp2
                go_roundw
                case rel => exact ⟨k + 1, by omega, by omega, by go_num, by rw [HSN.out.2]; simp, ⟨by rw [HSN.out.1, show rfP sz k (no, cc) = ⟨no, List.replicate 512 cc⟩ by unfold rfP; rw [if_neg h97]]; exact HO9.out⟩, ⟨HD8.out.grown HG9.out (row_typed HR8.out (by decide) (by decide))⟩, ⟨(HG9.out.block gw (blk_lt HW8.out) (Kd.R_ne HR8.out HW8.out (by decide))).trans HW8.out⟩, HB9⟩
                case measure => simp [intOf]; omega
              · rw [Bool.not_eq_true] at hbd
                rw [hbd] at HSN ⊢
                by_cases hn0 : no < 0
                · have f5 : decide (no < 0) = true := decide_eq_true hn0
                  go_upto_region 11 with ((with_reducible refine gate_dst (N := 101) rfl ?_); at_builtin; refine Kd.R_append k58 (w0 := W) (W := w8) W.heap.size rfl (.tmp 98) (.tmp 100) 23 58 (.agg #[.int .i64 0, .slice none 0 0]) 32 rfl Try.underlying23 INF8.out rfl (by decide) (by decide) (.slice yA k yc) (rfL sz l k) ⟨no, List.replicate 512 cc⟩ [.int .i64 no, .slice A5 512 c5] tt (fun q => wr.heap.size ≤ q) rfl rfl (k58_mkM w8 W.heap.size (fun q => wr.heap.size ≤ q) ⟨no, List.replicate 512 cc⟩ HV8.out) (fun q hq => ⟨trivial, fun e => Nat.not_lt.2 hq (HLTR.out q e.symm)⟩) (fun _ _ => trivial) HR8.out HBW8.out HBW8.out.size ?hl ?_; (case hl => rw [rfL_len]; omega); intro v9 w9 ho hb hG hat; have HO9 := Aside0.mk ho; have HB9 := Aside0.mk hb; have HG9 := Aside0.mk hG; clear ho hb hG hat)
                  go_wp2
                  go_roundw
                  case rel => exact ⟨k + 1, by omega, by omega, by go_num, by rw [HSN.out.2, decide_eq_true (show ((no, cc) : Put_).1 < 0 from hn0)]; simp, ⟨by rw [HSN.out.1, show rfP sz k (no, cc) = ⟨no, List.replicate 512 cc⟩ by unfold rfP; rw [if_neg h97]]; exact HO9.out⟩, ⟨HD8.out.grown HG9.out (row_typed HR8.out (by decide) (by decide))⟩, ⟨(HG9.out.block gw (blk_lt HW8.out) (Kd.R_ne HR8.out HW8.out (by decide))).trans HW8.out⟩, HB9⟩
                  case measure => simp [intOf]; omega
                · have f5 : decide (no < 0) = false := decide_eq_false hn0
                  by_cases hn1 : (n : Int) - 64 ≤ no
                  · have f6 : decide ((n : Int) - 64 ≤ no) = true := decide_eq_true hn1
                    go_upto_region 11 with ((with_reducible refine gate_dst (N := 101) rfl ?_); at_builtin; refine Kd.R_append k58 (w0 := W) (W := w8) W.heap.size rfl (.tmp 98) (.tmp 100) 23 58 (.agg #[.int .i64 0, .slice none 0 0]) 32 rfl Try.underlying23 INF8.out rfl (by decide) (by decide) (.slice yA k yc) (rfL sz l k) ⟨no, List.replicate 512 cc⟩ [.int .i64 no, .slice A5 512 c5] tt (fun q => wr.heap.size ≤ q) rfl rfl (k58_mkM w8 W.heap.size (fun q => wr.heap.size ≤ q) ⟨no, List.replicate 512 cc⟩ HV8.out) (fun q hq => ⟨trivial, fun e => Nat.not_lt.2 hq (HLTR.out q e.symm)⟩) (fun _ _ => trivial) HR8.out HBW8.out HBW8.out.size ?hl ?_; (case hl => rw [rfL_len]; omega); intro v9 w9 ho hb hG hat; have HO9 := Aside0.mk ho; have HB9 := Aside0.mk hb; have HG9 := Aside0.mk hG; clear ho hb hG hat)
                    go_wp2
                    go_roundw
                    case rel => exact ⟨k + 1, by omega, by omega, by go_num, by rw [HSN.out.2, decide_eq_true (show (n : Int) - 64 ≤ ((no, cc) : Put_).1 from hn1)]; simp, ⟨by rw [HSN.out.1, show rfP sz k (no, cc) = ⟨no, List.replicate 512 cc⟩ by unfold rfP; rw [if_neg h97]]; exact HO9.out⟩, ⟨HD8.out.grown HG9.out (row_typed HR8.out (by decide) (by decide))⟩, ⟨(HG9.out.block gw (blk_lt HW8.out) (Kd.R_ne HR8.out HW8.out (by decide))).trans HW8.out⟩, HB9⟩
                    case measure => simp [intOf]; omega
                  · have f6 : decide ((n : Int) - 64 ≤ no) = false := decide_eq_false hn1
                    go_upto_region 11 with ((with_reducible refine gate_dst (N := 101) rfl ?_); at_builtin; refine Kd.R_append k58 (w0 := W) (W := w8) W.heap.size rfl (.tmp 98) (.tmp 100) 23 58 (.agg #[.int .i64 0, .slice none 0 0]) 32 rfl Try.underlying23 INF8.out rfl (by decide) (by decide) (.slice yA k yc) (rfL sz l k) ⟨no, List.replicate 512 cc⟩ [.int .i64 no, .slice A5 512 c5] tt (fun q => wr.heap.size ≤ q) rfl rfl (k58_mkM w8 W.heap.size (fun q => wr.heap.size ≤ q) ⟨no, List.replicate 512 cc⟩ HV8.out) (fun q hq => ⟨trivial, fun e => Nat.not_lt.2 hq (HLTR.out q e.symm)⟩) (fun _ _ => trivial) HR8.out HBW8.out HBW8.out.size ?hl ?_; (case hl => rw [rfL_len]; omega); intro v9 w9 ho hb hG hat; have HO9 := Aside0.mk ho; have HB9 := Aside0.mk hb; have HG9 := Aside0.mk hG; clear ho hb hG hat)
                    go_wp2
                    go_roundw
                    case rel => exact ⟨k + 1, by omega, by omega, by go_num, by rw [HSN.out.2, decide_eq_false (show ¬ (n : Int) - 64 ≤ ((no, cc) : Put_).1 from hn1), decide_eq_false (show ¬ ((no, cc) : Put_).1 < 0 from hn0), decide_eq_false h97]; simp, ⟨by rw [HSN.out.1, show rfP sz k (no, cc) = ⟨no, List.replicate 512 cc⟩ by unfold rfP; rw [if_neg h97]]; exact HO9.out⟩, ⟨HD8.out.grown HG9.out (row_typed HR8.out (by decide) (by decide))⟩, ⟨(HG9.out.block gw (blk_lt HW8.out) (Kd.R_ne HR8.out HW8.out (by decide))).trans HW8.out⟩, HB9⟩
                    case measure => simp [intOf]; omega
        · obtain rfl : k = 70 := by omega
          have f3 : decide (((70 : Nat) : Int) < 70) = false := by decide
          obtain ⟨d', s', hcm, hd1, hd2, hd3⟩ := refuse_plain (n := (n : Int)) (sz := sz) (by omega) (by omega) HOK.out (k := 70) (by rw [← HNL.out]; omega) (by omega)
          obtain ⟨Ap, cp, hpv, _, hpl⟩ := pgL_of_R HRk.out
          subst hpv
          rw [rfL_len] at hpl
          have HPL := Aside0.mk hpl
          have HCM := Aside0.mk hcm
          have HD2 := Aside0.mk (And.intro hd1 (And.intro hd2 hd3))
          have HRO := Aside0.mk (rfL_ok (sz := sz) HOK.out (k := 70) (by rw [← HNL.out]; omega))
          clear hcm hd1 hd2 hd3 hpl
          go_upto_region 20 with (go_at_call 20; rw [rfL_len]; refine (commit_c W.heap.size gw g 0 (freshD n) W wr Ap 70 cp (rfL sz l 70) HPL.out HWk.out HDk.out HBk.out (Nat.le_refl _) HG6.out (by decide) (by decide) HRO.out (by show 0 + 200 < 1000000; decide) (by omega)).mono ?_; rw [HCM.out]; rintro e w11 ⟨rfl, h1, h2, h3, h4⟩; have HD11 := Aside0.mk h1; have HB11 := Aside0.mk h3; clear h1 h2 h3 h4)
          try dsimp only
          by_cases hbd : rfB n sz l 70 = true
          · have hW : rfW n sz l 70 = 1 := by unfold rfW; rw [if_pos hbd]
            rw [hW] at HD2 ⊢
            rw [hbd]
            obtain rfl := HD2.out.2.2 (by decide)
            clear hbd hW
            try rw [rfL_len]
            go_wp2_with fail
            go_loopw [17] (fun x wr => ∃ i : Nat, i ≤ n ∧ x = .int .i64 i ∧ Aside0 (IsD W.heap.size wr g (freshD n)) ∧ Aside0 (Below W.heap.size W wr)) (fun x _ => n - (intOf x).toNat)
            case atStart => exact ⟨0, Nat.zero_le _, rfl, HD11, HB11⟩
            case round =>
              obtain ⟨i, hi, rfl, HDi, HBi⟩ := hrel
              by_cases hin : i < n
              · have g1 : decide ((i : Int) < n) = true := decide_eq_true (by omega)
                go_upto_region 27 with fail
                have hdr : Below wr.heap.size wr wr.drew := below_drew (Below.refl _ _)
                refine start_ (n := 7) (S := fun w' => Below wr.heap.size wr w') (ds := []) #[false, false, false, false, false, false, false] (by kernel_rfl) rfl rfl hdr (fun hHeld => ?_)
                clear hdr
                refine pure_ (i := 0) (N := some 118) (v := ?_) (a' := ?_) #[true, false, false, false, false, false, false] rfl rfl (by kernel_rfl) (fun _ _ _ h => h) (Or.inl ⟨by rfl, ?_⟩) ?_ ?_
                rotate_left
                · intro w'
                  go_simp
                  with_reducible rfl
                rotate_left
                · simp only [Act.put, List.setIfInBounds_toArray, List.set_cons_zero, List.set_cons_succ]
                  rfl
                refine pure_ (i := 1) (N := some 119) (v := ?_) (a' := ?_) #[true, true, false, false, false, false, false] rfl rfl (by kernel_rfl) (fun _ _ _ h => h) (Or.inl ⟨by rfl, ?_⟩) ?_ ?_
                rotate_left
                · intro w'
                  go_simp
                  with_reducible rfl
                rotate_left
                · simp only [Act.put, List.setIfInBounds_toArray, List.set_cons_zero, List.set_cons_succ]
                  rfl
                refine lattice3 (l0 := #[true, true, false, false, false, false, false]) [2, 3, 4, 5] [[false, false, false, false], [true, false, false, false], [true, true, false, false], [false, false, true, false], [true, false, true, false], [true, true, true, false], [false, false, true, true], [true, false, true, true], [true, true, true, true]] [120, 121, 122, 123] (by kernel_rfl) (by kernel_rfl) (by decide) (by kernel_rfl) (by kernel_rfl) (by kernel_rfl) (fun d xs w' => ∃ x0 x1 x2 x3, xs = [x0, x1, x2, x3] ∧ (d.getD 0 false = true → ∃ A c, x0 = .slice A 512 c ∧ Kd.C byteK w' A 512 zeros) ∧ (d.getD 1 false = true → x1 = .string (strOfNums zeros)) ∧ (d.getD 2 false = true → ∃ A c, x2 = .slice A 512 c ∧ Kd.C byteK w' A 512 zeros) ∧ (d.getD 3 false = true → x3 = .string (strOfNums zeros))) 1 rfl (by kernel_rfl) hHeld ?hF ?hstep ?hfin
                case hF =>
                  intro xs hx
                  match xs, hx with
                  | [x0, x1, x2, x3], _ => exact ⟨x0, x1, x2, x3, rfl, fun h => absurd h (by decide), fun h => absurd h (by decide), fun h => absurd h (by decide), fun h => absurd h (by decide)⟩
                case hstep =>
                  intro j hj
                  have hj : j < 4 := hj
                  rcases (by omega : j = 0 ∨ j = 1 ∨ j = 2 ∨ j = 3) with rfl | rfl | rfl | rfl
                  · intro d hd hjn hn xs wl hx hSl ⟨x0, x1, x2, x3, hxs, fa, fb, fc, fd⟩ a' ha o ho K hK
                    subst hxs
                    obtain rfl := Option.some.inj (ho.symm.trans (rfl : _ = some _))
                    simp only [putVs, Act.put, List.setIfInBounds_toArray, List.set_cons_zero, List.set_cons_succ] at ha
                    subst ha
                    refine goes_ Try.func26 (by kernel_rfl) rfl #[.pointer (some ⟨g, 0, none⟩), .int .i64 i] (by rfl) rfl rfl (by (try simp only [List.map_toArray, List.map_cons, List.map_nil]); first | done | rfl) ?_
                    refine (bytes_calls W.heap.size g (freshD n) (i : Int) ⟨by omega, by omega⟩ wl (HDi.out.below hSl)).mono ?_
                    rintro e w5 ⟨v5, rfl, h1, hb1⟩
                    rw [show bytesD (freshD n) (i : Int) = zeros by unfold bytesD; rw [if_neg (by show ¬ ((i : Int) < 0 ∨ (n : Int) ≤ (i : Int)); omega)]; rfl] at h1
                    obtain ⟨A6, c6, e6⟩ := Kd.R_slice h1
                    subst e6
                    have hr1 := Kd.R_reads' h1
                    have hz5 : zeros.length = 512 := List.length_replicate
                    rw [hz5] at hr1 ⊢
                    have hnew : ∃ A c, Value.slice A6 512 c6 = .slice A 512 c ∧ Kd.C byteK w5 A 512 zeros := ⟨A6, c6, rfl, hr1.2.2⟩
                    refine ⟨_, rfl, ?_⟩
                    exact hK.out _ w5 (hSl.trans (hb1.mono hSl.size)) ⟨_, _, _, _, rfl, fun h0 => hnew, fun h1 => absurd ((on_ne d 0 1 (by decide)).symm.trans h1) (fun h2 => bit_abs (before_of (j := 0) (k := 1) (by kernel_rfl) hd hjn hn) h2), fun h2 => (by obtain ⟨A6, c6, e6, h6⟩ := (fc ((on_ne d 0 2 (by decide)).symm.trans h2)); exact ⟨A6, c6, e6, Kd.C_below h6 hb1⟩), fun h3 => (fd ((on_ne d 0 3 (by decide)).symm.trans h3))⟩
                  · intro d hd hjn hn xs wl hx hSl ⟨x0, x1, x2, x3, hxs, fa, fb, fc, fd⟩ a' ha o ho K hK
                    subst hxs
                    obtain rfl := Option.some.inj (ho.symm.trans (rfl : _ = some _))
                    simp only [putVs, Act.put, List.setIfInBounds_toArray, List.set_cons_zero, List.set_cons_succ] at ha
                    subst ha
                    have ga := fa (after_of (j := 1) (k := 0) (by kernel_rfl) hd hjn hn)
                    obtain ⟨A6, c6, rfl, h6⟩ := ga
                    refine value_ rfl rfl (v := .string (strOfNums zeros)) (w1 := wl) (exec_conv (x := .tmp 120) rfl rfl (bytes_string (c := c6) h6)) ?_
                    exact hK.out _ wl hSl ⟨_, _, _, _, rfl, fun h0 => (fa (after_of (j := 1) (k := 0) (by kernel_rfl) hd hjn hn)), fun h1 => rfl, fun h2 => (fc ((on_ne d 1 2 (by decide)).symm.trans h2)), fun h3 => (fd ((on_ne d 1 3 (by decide)).symm.trans h3))⟩
                  · intro d hd hjn hn xs wl hx hSl ⟨x0, x1, x2, x3, hxs, fa, fb, fc, fd⟩ a' ha o ho K hK
                    subst hxs
                    obtain rfl := Option.some.inj (ho.symm.trans (rfl : _ = some _))
                    simp only [putVs, Act.put, List.setIfInBounds_toArray, List.set_cons_zero, List.set_cons_succ] at ha
                    subst ha
                    refine Kd.R_make_step byteK (w0 := wl) wl.heap.size 5 (by rfl) (N := 122) rfl 56 _ _ rfl 512 rfl rfl Try.underlying56 (.int .u8 0) 1 INF5.out rfl (by decide) (by decide) 0 (ok := tt) (okp := tt) ?hz (fun _ h => h) trivial (by decide) (by decide) (Below.refl _ _) (Nat.le_refl _) ?_; (case hz => rfl)
                    intro v6 w6 ho hb1 hG hnw
                    obtain ⟨A6, c6, e6⟩ := Kd.R_slice ho
                    subst e6
                    have hr1 := Kd.R_reads' ho
                    rw [List.length_replicate] at hr1 ⊢
                    have hnew : ∃ A c, Value.slice A6 512 c6 = .slice A 512 c ∧ Kd.C byteK w6 A 512 zeros := ⟨A6, c6, rfl, hr1.2.2⟩
                    exact hK.out _ w6 (hSl.trans (hb1.mono hSl.size)) ⟨_, _, _, _, rfl, fun h0 => (by obtain ⟨A6, c6, e6, h6⟩ := (fa ((on_ne d 2 0 (by decide)).symm.trans h0)); exact ⟨A6, c6, e6, Kd.C_below h6 hb1⟩), fun h1 => (fb ((on_ne d 2 1 (by decide)).symm.trans h1)), fun h2 => hnew, fun h3 => absurd ((on_ne d 2 3 (by decide)).symm.trans h3) (fun h2 => bit_abs (before_of (j := 2) (k := 3) (by kernel_rfl) hd hjn hn) h2)⟩
                  · intro d hd hjn hn xs wl hx hSl ⟨x0, x1, x2, x3, hxs, fa, fb, fc, fd⟩ a' ha o ho K hK
                    subst hxs
                    obtain rfl := Option.some.inj (ho.symm.trans (rfl : _ = some _))
                    simp only [putVs, Act.put, List.setIfInBounds_toArray, List.set_cons_zero, List.set_cons_succ] at ha
                    subst ha
                    have gc := fc (after_of (j := 3) (k := 2) (by kernel_rfl) hd hjn hn)
                    obtain ⟨A6, c6, rfl, h6⟩ := gc
                    refine value_ rfl rfl (v := .string (strOfNums zeros)) (w1 := wl) (exec_conv (x := .tmp 122) rfl rfl (bytes_string (c := c6) h6)) ?_
                    exact hK.out _ wl hSl ⟨_, _, _, _, rfl, fun h0 => (fa ((on_ne d 3 0 (by decide)).symm.trans h0)), fun h1 => (fb ((on_ne d 3 1 (by decide)).symm.trans h1)), fun h2 => (fc (after_of (j := 3) (k := 2) (by kernel_rfl) hd hjn hn)), fun h3 => rfl⟩
                case hfin =>
                  intro xs wl hx hSl ⟨x0, x1, x2, x3, hxs, fa, fb, fc, fd⟩ a' ha
                  subst hxs
                  simp only [putVs, Act.put, List.setIfInBounds_toArray, List.set_cons_zero, List.set_cons_succ] at ha
                  subst ha
                  have ga := fa (by decide)
                  have gb := fb (by decide)
                  have gc := fc (by decide)
                  have gd := fd (by decide)
                  clear fa fb fc fd
                  subst gb
                  subst gd
                  have hHeld := hSl
                  refine pure_ (i := 6) (N := some 124) (v := .bool false) (a' := ?_) #[true, true, true, true, true, true, true] rfl rfl (by kernel_rfl) (fun _ _ _ h => h) (Or.inl ⟨by rfl, ?_⟩) ?_ ?_
                  · intro w'
                    first | (go_simp; done) | (go_simp; simp)
                  rotate_left
                  · simp only [Act.put, List.setIfInBounds_toArray, List.set_cons_zero, List.set_cons_succ]
                    rfl
                  refine done_ (by kernel_rfl) ?_
                  have HS13 := Aside0.mk hHeld
                  clear hHeld hSl ga gc
                  go_wp2
                  go_roundw
                  case rel => exact ⟨i + 1, by omega, by go_num, ⟨HDi.out.below HS13.out⟩, ⟨HBi.out.trans (HS13.out.mono HBi.out.size)⟩⟩
                  case measure => simp [intOf]; omega
              · have g1 : decide ((i : Int) < n) = false := decide_eq_false (by omega)
                go_wp2_with (first
                  | (go_at_call 27; refine (pending_calls W.heap.size g (freshD n) wr HDi.out).mono ?_; rintro e w12 ⟨rfl, hw12⟩; cases hw12; rw [show ((freshD n) : D).since.length = 0 from rfl])
                  | (go_at_call 15; refine (lives_c wr).mono ?_; rintro e w20 ⟨rfl, h1⟩; have HB20 := Aside0.mk (HBi.out.trans (h1.mono HBi.out.size)); clear h1))
                go_ret
                exact ⟨rfl, HB20.out⟩
          · rw [Bool.not_eq_true] at hbd
            by_cases h62 : 62 < 70
            · have f9 : decide ((62 : Int) < (70 : Nat)) = true := decide_eq_true (by omega)
              have hW : rfW n sz l 70 = 210 := by unfold rfW; rw [if_neg (by rw [hbd]; decide), if_pos h62]
              rw [hW] at HD2 ⊢
              rw [hbd]
              obtain rfl := HD2.out.2.2 (by decide)
              clear hbd hW
              try rw [rfL_len]
              go_wp2_with fail
              go_loopw [17] (fun x wr => ∃ i : Nat, i ≤ n ∧ x = .int .i64 i ∧ Aside0 (IsD W.heap.size wr g (freshD n)) ∧ Aside0 (Below W.heap.size W wr)) (fun x _ => n - (intOf x).toNat)
              case atStart => exact ⟨0, Nat.zero_le _, rfl, HD11, HB11⟩
              case round =>
                obtain ⟨i, hi, rfl, HDi, HBi⟩ := hrel
                by_cases hin : i < n
                · have g1 : decide ((i : Int) < n) = true := decide_eq_true (by omega)
                  go_upto_region 27 with fail
                  have hdr : Below wr.heap.size wr wr.drew := below_drew (Below.refl _ _)
                  refine start_ (n := 7) (S := fun w' => Below wr.heap.size wr w') (ds := []) #[false, false, false, false, false, false, false] (by kernel_rfl) rfl rfl hdr (fun hHeld => ?_)
                  clear hdr
                  refine pure_ (i := 0) (N := some 118) (v := ?_) (a' := ?_) #[true, false, false, false, false, false, false] rfl rfl (by kernel_rfl) (fun _ _ _ h => h) (Or.inl ⟨by rfl, ?_⟩) ?_ ?_
                  rotate_left
                  · intro w'
                    go_simp
                    with_reducible rfl
                  rotate_left
                  · simp only [Act.put, List.setIfInBounds_toArray, List.set_cons_zero, List.set_cons_succ]
                    rfl
                  refine pure_ (i := 1) (N := some 119) (v := ?_) (a' := ?_) #[true, true, false, false, false, false, false] rfl rfl (by kernel_rfl) (fun _ _ _ h => h) (Or.inl ⟨by rfl, ?_⟩) ?_ ?_
                  rotate_left
                  · intro w'
                    go_simp
                    with_reducible rfl
                  rotate_left
                  · simp only [Act.put, List.setIfInBounds_toArray, List.set_cons_zero, List.set_cons_succ]
                    rfl
                  refine lattice3 (l0 := #[true, true, false, false, false, false, false]) [2, 3, 4, 5] [[false, false, false, false], [true, false, false, false], [true, true, false, false], [false, false, true, false], [true, false, true, false], [true, true, true, false], [false, false, true, true], [true, false, true, true], [true, true, true, true]] [120, 121, 122, 123] (by kernel_rfl) (by kernel_rfl) (by decide) (by kernel_rfl) (by kernel_rfl) (by kernel_rfl) (fun d xs w' => ∃ x0 x1 x2 x3, xs = [x0, x1, x2, x3] ∧ (d.getD 0 false = true → ∃ A c, x0 = .slice A 512 c ∧ Kd.C byteK w' A 512 zeros) ∧ (d.getD 1 false = true → x1 = .string (strOfNums zeros)) ∧ (d.getD 2 false = true → ∃ A c, x2 = .slice A 512 c ∧ Kd.C byteK w' A 512 zeros) ∧ (d.getD 3 false = true → x3 = .string (strOfNums zeros))) 1 rfl (by kernel_rfl) hHeld ?hF ?hstep ?hfin
                  case hF =>
                    intro xs hx
                    match xs, hx with
                    | [x0, x1, x2, x3], _ => exact ⟨x0, x1, x2, x3, rfl, fun h => absurd h (by decide), fun h => absurd h (by decide), fun h => absurd h (by decide), fun h => absurd h (by decide)⟩
                  case hstep =>
                    intro j hj
                    have hj : j < 4 := hj
                    rcases (by omega : j = 0 ∨ j = 1 ∨ j = 2 ∨ j = 3) with rfl | rfl | rfl | rfl
                    · intro d hd hjn hn xs wl hx hSl ⟨x0, x1, x2, x3, hxs, fa, fb, fc, fd⟩ a' ha o ho K hK
                      subst hxs
                      obtain rfl := Option.some.inj (ho.symm.trans (rfl : _ = some _))
                      simp only [putVs, Act.put, List.setIfInBounds_toArray, List.set_cons_zero, List.set_cons_succ] at ha
                      subst ha
                      refine goes_ Try.func26 (by kernel_rfl) rfl #[.pointer (some ⟨g, 0, none⟩), .int .i64 i] (by rfl) rfl rfl (by (try simp only [List.map_toArray, List.map_cons, List.map_nil]); first | done | rfl) ?_
                      refine (bytes_calls W.heap.size g (freshD n) (i : Int) ⟨by omega, by omega⟩ wl (HDi.out.below hSl)).mono ?_
                      rintro e w5 ⟨v5, rfl, h1, hb1⟩
                      rw [show bytesD (freshD n) (i : Int) = zeros by unfold bytesD; rw [if_neg (by show ¬ ((i : Int) < 0 ∨ (n : Int) ≤ (i : Int)); omega)]; rfl] at h1
                      obtain ⟨A6, c6, e6⟩ := Kd.R_slice h1
                      subst e6
                      have hr1 := Kd.R_reads' h1
                      have hz5 : zeros.length = 512 := List.length_replicate
                      rw [hz5] at hr1 ⊢
                      have hnew : ∃ A c, Value.slice A6 512 c6 = .slice A 512 c ∧ Kd.C byteK w5 A 512 zeros := ⟨A6, c6, rfl, hr1.2.2⟩
                      refine ⟨_, rfl, ?_⟩
                      exact hK.out _ w5 (hSl.trans (hb1.mono hSl.size)) ⟨_, _, _, _, rfl, fun h0 => hnew, fun h1 => absurd ((on_ne d 0 1 (by decide)).symm.trans h1) (fun h2 => bit_abs (before_of (j := 0) (k := 1) (by kernel_rfl) hd hjn hn) h2), fun h2 => (by obtain ⟨A6, c6, e6, h6⟩ := (fc ((on_ne d 0 2 (by decide)).symm.trans h2)); exact ⟨A6, c6, e6, Kd.C_below h6 hb1⟩), fun h3 => (fd ((on_ne d 0 3 (by decide)).symm.trans h3))⟩
                    · intro d hd hjn hn xs wl hx hSl ⟨x0, x1, x2, x3, hxs, fa, fb, fc, fd⟩ a' ha o ho K hK
                      subst hxs
                      obtain rfl := Option.some.inj (ho.symm.trans (rfl : _ = some _))
                      simp only [putVs, Act.put, List.setIfInBounds_toArray, List.set_cons_zero, List.set_cons_succ] at ha
                      subst ha
                      have ga := fa (after_of (j := 1) (k := 0) (by kernel_rfl) hd hjn hn)
                      obtain ⟨A6, c6, rfl, h6⟩ := ga
                      refine value_ rfl rfl (v := .string (strOfNums zeros)) (w1 := wl) (exec_conv (x := .tmp 120) rfl rfl (bytes_string (c := c6) h6)) ?_
                      exact hK.out _ wl hSl ⟨_, _, _, _, rfl, fun h0 => (fa (after_of (j := 1) (k := 0) (by kernel_rfl) hd hjn hn)), fun h1 => rfl, fun h2 => (fc ((on_ne d 1 2 (by decide)).symm.trans h2)), fun h3 => (fd ((on_ne d 1 3 (by decide)).symm.trans h3))⟩
                    · intro d hd hjn hn xs wl hx hSl ⟨x0, x1, x2, x3, hxs, fa, fb, fc, fd⟩ a' ha o ho K hK
                      subst hxs
                      obtain rfl := Option.some.inj (ho.symm.trans (rfl : _ = some _))
                      simp only [putVs, Act.put, List.setIfInBounds_toArray, List.set_cons_zero, List.set_cons_succ] at ha
                      subst ha
                      refine Kd.R_make_step byteK (w0 := wl) wl.heap.size 5 (by rfl) (N := 122) rfl 56 _ _ rfl 512 rfl rfl Try.underlying56 (.int .u8 0) 1 INF5.out rfl (by decide) (by decide) 0 (ok := tt) (okp := tt) ?hz (fun _ h => h) trivial (by decide) (by decide) (Below.refl _ _) (Nat.le_refl _) ?_; (case hz => rfl)
                      intro v6 w6 ho hb1 hG hnw
                      obtain ⟨A6, c6, e6⟩ := Kd.R_slice ho
                      subst e6
                      have hr1 := Kd.R_reads' ho
                      rw [List.length_replicate] at hr1 ⊢
                      have hnew : ∃ A c, Value.slice A6 512 c6 = .slice A 512 c ∧ Kd.C byteK w6 A 512 zeros := ⟨A6, c6, rfl, hr1.2.2⟩
                      exact hK.out _ w6 (hSl.trans (hb1.mono hSl.size)) ⟨_, _, _, _, rfl, fun h0 => (by obtain ⟨A6, c6, e6, h6⟩ := (fa ((on_ne d 2 0 (by decide)).symm.trans h0)); exact ⟨A6, c6, e6, Kd.C_below h6 hb1⟩), fun h1 => (fb ((on_ne d 2 1 (by decide)).symm.trans h1)), fun h2 => hnew, fun h3 => absurd ((on_ne d 2 3 (by decide)).symm.trans h3) (fun h2 => bit_abs (before_of (j := 2) (k := 3) (by kernel_rfl) hd hjn hn) h2)⟩
                    · intro d hd hjn hn xs wl hx hSl ⟨x0, x1, x2, x3, hxs, fa, fb, fc, fd⟩ a' ha o ho K hK
                      subst hxs
                      obtain rfl := Option.some.inj (ho.symm.trans (rfl : _ = some _))
                      simp only [putVs, Act.put, List.setIfInBounds_toArray, List.set_cons_zero, List.set_cons_succ] at ha
                      subst ha
                      have gc := fc (after_of (j := 3) (k := 2) (by kernel_rfl) hd hjn hn)
                      obtain ⟨A6, c6, rfl, h6⟩ := gc
                      refine value_ rfl rfl (v := .string (strOfNums zeros)) (w1 := wl) (exec_conv (x := .tmp 122) rfl rfl (bytes_string (c := c6) h6)) ?_
                      exact hK.out _ wl hSl ⟨_, _, _, _, rfl, fun h0 => (fa ((on_ne d 3 0 (by decide)).symm.trans h0)), fun h1 => (fb ((on_ne d 3 1 (by decide)).symm.trans h1)), fun h2 => (fc (after_of (j := 3) (k := 2) (by kernel_rfl) hd hjn hn)), fun h3 => rfl⟩
                  case hfin =>
                    intro xs wl hx hSl ⟨x0, x1, x2, x3, hxs, fa, fb, fc, fd⟩ a' ha
                    subst hxs
                    simp only [putVs, Act.put, List.setIfInBounds_toArray, List.set_cons_zero, List.set_cons_succ] at ha
                    subst ha
                    have ga := fa (by decide)
                    have gb := fb (by decide)
                    have gc := fc (by decide)
                    have gd := fd (by decide)
                    clear fa fb fc fd
                    subst gb
                    subst gd
                    have hHeld := hSl
                    refine pure_ (i := 6) (N := some 124) (v := .bool false) (a' := ?_) #[true, true, true, true, true, true, true] rfl rfl (by kernel_rfl) (fun _ _ _ h => h) (Or.inl ⟨by rfl, ?_⟩) ?_ ?_
                    · intro w'
                      first | (go_simp; done) | (go_simp; simp)
                    rotate_left
                    · simp only [Act.put, List.setIfInBounds_toArray, List.set_cons_zero, List.set_cons_succ]
                      rfl
                    refine done_ (by kernel_rfl) ?_
                    have HS13 := Aside0.mk hHeld
                    clear hHeld hSl ga gc
                    go_wp2
                    go_roundw
                    case rel => exact ⟨i + 1, by omega, by go_num, ⟨HDi.out.below HS13.out⟩, ⟨HBi.out.trans (HS13.out.mono HBi.out.size)⟩⟩
                    case measure => simp [intOf]; omega
                · have g1 : decide ((i : Int) < n) = false := decide_eq_false (by omega)
                  go_wp2_with (first
                    | (go_at_call 27; refine (pending_calls W.heap.size g (freshD n) wr HDi.out).mono ?_; rintro e w12 ⟨rfl, hw12⟩; cases hw12; rw [show ((freshD n) : D).since.length = 0 from rfl])
                    | (go_at_call 15; refine (lives_c wr).mono ?_; rintro e w20 ⟨rfl, h1⟩; have HB20 := Aside0.mk (HBi.out.trans (h1.mono HBi.out.size)); clear h1))
                  go_ret
                  exact ⟨rfl, HB20.out⟩
            · exact absurd (by decide) h62
      · have f2 : decide ((k : Int) < nl) = false := decide_eq_false (by omega)
        obtain ⟨d', s', hcm, hd1, hd2, hd3⟩ := refuse_plain (n := (n : Int)) (sz := sz) (by omega) (by omega) HOK.out (k := k) (by rw [← HNL.out]; omega) (by omega)
        obtain ⟨Ap, cp, hpv, _, hpl⟩ := pgL_of_R HRk.out
        subst hpv
        rw [rfL_len] at hpl
        have HPL := Aside0.mk hpl
        have HCM := Aside0.mk hcm
        have HD2 := Aside0.mk (And.intro hd1 (And.intro hd2 hd3))
        have HRO := Aside0.mk (rfL_ok (sz := sz) HOK.out (k := k) (by rw [← HNL.out]; omega))
        clear hcm hd1 hd2 hd3 hpl
        go_upto_region 20 with (go_at_call 20; rw [rfL_len]; refine (commit_c W.heap.size gw g 0 (freshD n) W wr Ap k cp (rfL sz l k) HPL.out HWk.out HDk.out HBk.out (Nat.le_refl _) HG6.out (by decide) (by decide) HRO.out (by show 0 + 200 < 1000000; decide) (by omega)).mono ?_; rw [HCM.out]; rintro e w11 ⟨rfl, h1, h2, h3, h4⟩; have HD11 := Aside0.mk h1; have HB11 := Aside0.mk h3; clear h1 h2 h3 h4)
        try dsimp only
        by_cases hbd : rfB n sz l k = true
        · have hW : rfW n sz l k = 1 := by unfold rfW; rw [if_pos hbd]
          rw [hW] at HD2 ⊢
          rw [hbd]
          obtain rfl := HD2.out.2.2 (by decide)
          clear hbd hW
          try rw [rfL_len]
          go_wp2_with fail
          go_loopw [17] (fun x wr => ∃ i : Nat, i ≤ n ∧ x = .int .i64 i ∧ Aside0 (IsD W.heap.size wr g (freshD n)) ∧ Aside0 (Below W.heap.size W wr)) (fun x _ => n - (intOf x).toNat)
          case atStart => exact ⟨0, Nat.zero_le _, rfl, HD11, HB11⟩
          case round =>
            obtain ⟨i, hi, rfl, HDi, HBi⟩ := hrel
            by_cases hin : i < n
            · have g1 : decide ((i : Int) < n) = true := decide_eq_true (by omega)
              go_upto_region 27 with fail
              have hdr : Below wr.heap.size wr wr.drew := below_drew (Below.refl _ _)
              refine start_ (n := 7) (S := fun w' => Below wr.heap.size wr w') (ds := []) #[false, false, false, false, false, false, false] (by kernel_rfl) rfl rfl hdr (fun hHeld => ?_)
              clear hdr
              refine pure_ (i := 0) (N := some 118) (v := ?_) (a' := ?_) #[true, false, false, false, false, false, false] rfl rfl (by kernel_rfl) (fun _ _ _ h => h) (Or.inl ⟨by rfl, ?_⟩) ?_ ?_
              rotate_left
              · intro w'
                go_simp
                with_reducible rfl
              rotate_left
              · simp only [Act.put, List.setIfInBounds_toArray, List.set_cons_zero, List.set_cons_succ]
                rfl
              refine pure_ (i := 1) (N := some 119) (v := ?_) (a' := ?_) #[true, true, false, false, false, false, false] rfl rfl (by kernel_rfl) (fun _ _ _ h => h) (Or.inl ⟨by rfl, ?_⟩) ?_ ?_
              rotate_left
              · intro w'
                go_simp
                with_reducible rfl
              rotate_left
              · simp only [Act.put, List.setIfInBounds_toArray, List.set_cons_zero, List.set_cons_succ]
                rfl
              refine lattice3 (l0 := #[true, true, false, false, false, false, false]) [2, 3, 4, 5] [[false, false, false, false], [true, false, false, false], [true, true, false, false], [false, false, true, false], [true, false, true, false], [true, true, true, false], [false, false, true, true], [true, false, true, true], [true, true, true, true]] [120, 121, 122, 123] (by kernel_rfl) (by kernel_rfl) (by decide) (by kernel_rfl) (by kernel_rfl) (by kernel_rfl) (fun d xs w' => ∃ x0 x1 x2 x3, xs = [x0, x1, x2, x3] ∧ (d.getD 0 false = true → ∃ A c, x0 = .slice A 512 c ∧ Kd.C byteK w' A 512 zeros) ∧ (d.getD 1 false = true → x1 = .string (strOfNums zeros)) ∧ (d.getD 2 false = true → ∃ A c, x2 = .slice A 512 c ∧ Kd.C byteK w' A 512 zeros) ∧ (d.getD 3 false = true → x3 = .string (strOfNums zeros))) 1 rfl (by kernel_rfl) hHeld ?hF ?hstep ?hfin
              case hF =>
                intro xs hx
                match xs, hx with
                | [x0, x1, x2, x3], _ => exact ⟨x0, x1, x2, x3, rfl, fun h => absurd h (by decide), fun h => absurd h (by decide), fun h => absurd h (by decide), fun h => absurd h (by decide)⟩
              case hstep =>
                intro j hj
                have hj : j < 4 := hj
                rcases (by omega : j = 0 ∨ j = 1 ∨ j = 2 ∨ j = 3) with rfl | rfl | rfl | rfl
                · intro d hd hjn hn xs wl hx hSl ⟨x0, x1, x2, x3, hxs, fa, fb, fc, fd⟩ a' ha o ho K hK
                  subst hxs
                  obtain rfl := Option.some.inj (ho.symm.trans (rfl : _ = some _))
                  simp only [putVs, Act.put, List.setIfInBounds_toArray, List.set_cons_zero, List.set_cons_succ] at ha
                  subst ha
                  refine goes_ Try.func26 (by kernel_rfl) rfl #[.pointer (some ⟨g, 0, none⟩), .int .i64 i] (by rfl) rfl rfl (by (try simp only [List.map_toArray, List.map_cons, List.map_nil]); first | done | rfl) ?_
                  refine (bytes_calls W.heap.size g (freshD n) (i : Int) ⟨by omega, by omega⟩ wl (HDi.out.below hSl)).mono ?_
                  rintro e w5 ⟨v5, rfl, h1, hb1⟩
                  rw [show bytesD (freshD n) (i : Int) = zeros by unfold bytesD; rw [if_neg (by show ¬ ((i : Int) < 0 ∨ (n : Int) ≤ (i : Int)); omega)]; rfl] at h1
                  obtain ⟨A6, c6, e6⟩ := Kd.R_slice h1
                  subst e6
                  have hr1 := Kd.R_reads' h1
                  have hz5 : zeros.length = 512 := List.length_replicate
                  rw [hz5] at hr1 ⊢
                  have hnew : ∃ A c, Value.slice A6 512 c6 = .slice A 512 c ∧ Kd.C byteK w5 A 512 zeros := ⟨A6, c6, rfl, hr1.2.2⟩
                  refine ⟨_, rfl, ?_⟩
                  exact hK.out _ w5 (hSl.trans (hb1.mono hSl.size)) ⟨_, _, _, _, rfl, fun h0 => hnew, fun h1 => absurd ((on_ne d 0 1 (by decide)).symm.trans h1) (fun h2 => bit_abs (before_of (j := 0) (k := 1) (by kernel_rfl) hd hjn hn) h2), fun h2 => (by obtain ⟨A6, c6, e6, h6⟩ := (fc ((on_ne d 0 2 (by decide)).symm.trans h2)); exact ⟨A6, c6, e6, Kd.C_below h6 hb1⟩), fun h3 => (fd ((on_ne d 0 3 (by decide)).symm.trans h3))⟩
                · intro d hd hjn hn xs wl hx hSl ⟨x0, x1, x2, x3, hxs, fa, fb, fc, fd⟩ a' ha o ho K hK
                  subst hxs
                  obtain rfl := Option.some.inj (ho.symm.trans (rfl : _ = some _))
                  simp only [putVs, Act.put, List.setIfInBounds_toArray, List.set_cons_zero, List.set_cons_succ] at ha
                  subst ha
                  have ga := fa (after_of (j := 1) (k := 0) (by kernel_rfl) hd hjn hn)
                  obtain ⟨A6, c6, rfl, h6⟩ := ga
                  refine value_ rfl rfl (v := .string (strOfNums zeros)) (w1 := wl) (exec_conv (x := .tmp 120) rfl rfl (bytes_string (c := c6) h6)) ?_
                  exact hK.out _ wl hSl ⟨_, _, _, _, rfl, fun h0 => (fa (after_of (j := 1) (k := 0) (by kernel_rfl) hd hjn hn)), fun h1 => rfl, fun h2 => (fc ((on_ne d 1 2 (by decide)).symm.trans h2)), fun h3 => (fd ((on_ne d 1 3 (by decide)).symm.trans h3))⟩
                · intro d hd hjn hn xs wl hx hSl ⟨x0, x1, x2, x3, hxs, fa, fb, fc, fd⟩ a' ha o ho K hK
                  subst hxs
                  obtain rfl := Option.some.inj (ho.symm.trans (rfl : _ = some _))
                  simp only [putVs, Act.put, List.setIfInBounds_toArray, List.set_cons_zero, List.set_cons_succ] at ha
                  subst ha
                  refine Kd.R_make_step byteK (w0 := wl) wl.heap.size 5 (by rfl) (N := 122) rfl 56 _ _ rfl 512 rfl rfl Try.underlying56 (.int .u8 0) 1 INF5.out rfl (by decide) (by decide) 0 (ok := tt) (okp := tt) ?hz (fun _ h => h) trivial (by decide) (by decide) (Below.refl _ _) (Nat.le_refl _) ?_; (case hz => rfl)
                  intro v6 w6 ho hb1 hG hnw
                  obtain ⟨A6, c6, e6⟩ := Kd.R_slice ho
                  subst e6
                  have hr1 := Kd.R_reads' ho
                  rw [List.length_replicate] at hr1 ⊢
                  have hnew : ∃ A c, Value.slice A6 512 c6 = .slice A 512 c ∧ Kd.C byteK w6 A 512 zeros := ⟨A6, c6, rfl, hr1.2.2⟩
                  exact hK.out _ w6 (hSl.trans (hb1.mono hSl.size)) ⟨_, _, _, _, rfl, fun h0 => (by obtain ⟨A6, c6, e6, h6⟩ := (fa ((on_ne d 2 0 (by decide)).symm.trans h0)); exact ⟨A6, c6, e6, Kd.C_below h6 hb1⟩), fun h1 => (fb ((on_ne d 2 1 (by decide)).symm.trans h1)), fun h2 => hnew, fun h3 => absurd ((on_ne d 2 3 (by decide)).symm.trans h3) (fun h2 => bit_abs (before_of (j := 2) (k := 3) (by kernel_rfl) hd hjn hn) h2)⟩
                · intro d hd hjn hn xs wl hx hSl ⟨x0, x1, x2, x3, hxs, fa, fb, fc, fd⟩ a' ha o ho K hK
                  subst hxs
                  obtain rfl := Option.some.inj (ho.symm.trans (rfl : _ = some _))
                  simp only [putVs, Act.put, List.setIfInBounds_toArray, List.set_cons_zero, List.set_cons_succ] at ha
                  subst ha
                  have gc := fc (after_of (j := 3) (k := 2) (by kernel_rfl) hd hjn hn)
                  obtain ⟨A6, c6, rfl, h6⟩ := gc
                  refine value_ rfl rfl (v := .string (strOfNums zeros)) (w1 := wl) (exec_conv (x := .tmp 122) rfl rfl (bytes_string (c := c6) h6)) ?_
                  exact hK.out _ wl hSl ⟨_, _, _, _, rfl, fun h0 => (fa ((on_ne d 3 0 (by decide)).symm.trans h0)), fun h1 => (fb ((on_ne d 3 1 (by decide)).symm.trans h1)), fun h2 => (fc (after_of (j := 3) (k := 2) (by kernel_rfl) hd hjn hn)), fun h3 => rfl⟩
              case hfin =>
                intro xs wl hx hSl ⟨x0, x1, x2, x3, hxs, fa, fb, fc, fd⟩ a' ha
                subst hxs
                simp only [putVs, Act.put, List.setIfInBounds_toArray, List.set_cons_zero, List.set_cons_succ] at ha
                subst ha
                have ga := fa (by decide)
                have gb := fb (by decide)
                have gc := fc (by decide)
                have gd := fd (by decide)
                clear fa fb fc fd
                subst gb
                subst gd
                have hHeld := hSl
                refine pure_ (i := 6) (N := some 124) (v := .bool false) (a' := ?_) #[true, true, true, true, true, true, true] rfl rfl (by kernel_rfl) (fun _ _ _ h => h) (Or.inl ⟨by rfl, ?_⟩) ?_ ?_
                · intro w'
                  first | (go_simp; done) | (go_simp; simp)
                rotate_left
                · simp only [Act.put, List.setIfInBounds_toArray, List.set_cons_zero, List.set_cons_succ]
                  rfl
                refine done_ (by kernel_rfl) ?_
                have HS13 := Aside0.mk hHeld
                clear hHeld hSl ga gc
                go_wp2
                go_roundw
                case rel => exact ⟨i + 1, by omega, by go_num, ⟨HDi.out.below HS13.out⟩, ⟨HBi.out.trans (HS13.out.mono HBi.out.size)⟩⟩
                case measure => simp [intOf]; omega
            · have g1 : decide ((i : Int) < n) = false := decide_eq_false (by omega)
              go_wp2_with (first
                | (go_at_call 27; refine (pending_calls W.heap.size g (freshD n) wr HDi.out).mono ?_; rintro e w12 ⟨rfl, hw12⟩; cases hw12; rw [show ((freshD n) : D).since.length = 0 from rfl])
                | (go_at_call 15; refine (lives_c wr).mono ?_; rintro e w20 ⟨rfl, h1⟩; have HB20 := Aside0.mk (HBi.out.trans (h1.mono HBi.out.size)); clear h1))
              go_ret
              exact ⟨rfl, HB20.out⟩
        · rw [Bool.not_eq_true] at hbd
          by_cases h62 : 62 < k
          · have f9 : decide ((62 : Int) < (k : Nat)) = true := decide_eq_true (by omega)
            have hW : rfW n sz l k = 210 := by unfold rfW; rw [if_neg (by rw [hbd]; decide), if_pos h62]
            rw [hW] at HD2 ⊢
            rw [hbd]
            obtain rfl := HD2.out.2.2 (by decide)
            clear hbd hW
            try rw [rfL_len]
            go_wp2_with fail
            go_loopw [17] (fun x wr => ∃ i : Nat, i ≤ n ∧ x = .int .i64 i ∧ Aside0 (IsD W.heap.size wr g (freshD n)) ∧ Aside0 (Below W.heap.size W wr)) (fun x _ => n - (intOf x).toNat)
            case atStart => exact ⟨0, Nat.zero_le _, rfl, HD11, HB11⟩
            case round =>
              obtain ⟨i, hi, rfl, HDi, HBi⟩ := hrel
              by_cases hin : i < n
              · have g1 : decide ((i : Int) < n) = true := decide_eq_true (by omega)
                go_upto_region 27 with fail
                have hdr : Below wr.heap.size wr wr.drew := below_drew (Below.refl _ _)
                refine start_ (n := 7) (S := fun w' => Below wr.heap.size wr w') (ds := []) #[false, false, false, false, false, false, false] (by kernel_rfl) rfl rfl hdr (fun hHeld => ?_)
                clear hdr
                refine pure_ (i := 0) (N := some 118) (v := ?_) (a' := ?_) #[true, false, false, false, false, false, false] rfl rfl (by kernel_rfl) (fun _ _ _ h => h) (Or.inl ⟨by rfl, ?_⟩) ?_ ?_
                rotate_left
                · intro w'
                  go_simp
                  with_reducible rfl
                rotate_left
                · simp only [Act.put, List.setIfInBounds_toArray, List.set_cons_zero, List.set_cons_succ]
                  rfl
                refine pure_ (i := 1) (N := some 119) (v := ?_) (a' := ?_) #[true, true, false, false, false, false, false] rfl rfl (by kernel_rfl) (fun _ _ _ h => h) (Or.inl ⟨by rfl, ?_⟩) ?_ ?_
                rotate_left
                · intro w'
                  go_simp
                  with_reducible rfl
                rotate_left
                · simp only [Act.put, List.setIfInBounds_toArray, List.set_cons_zero, List.set_cons_succ]
                  rfl
                refine lattice3 (l0 := #[true, true, false, false, false, false, false]) [2, 3, 4, 5] [[false, false, false, false], [true, false, false, false], [true, true, false, false], [false, false, true, false], [true, false, true, false], [true, true, true, false], [false, false, true, true], [true, false, true, true], [true, true, true, true]] [120, 121, 122, 123] (by kernel_rfl) (by kernel_rfl) (by decide) (by kernel_rfl) (by kernel_rfl) (by kernel_rfl) (fun d xs w' => ∃ x0 x1 x2 x3, xs = [x0, x1, x2, x3] ∧ (d.getD 0 false = true → ∃ A c, x0 = .slice A 512 c ∧ Kd.C byteK w' A 512 zeros) ∧ (d.getD 1 false = true → x1 = .string (strOfNums zeros)) ∧ (d.getD 2 false = true → ∃ A c, x2 = .slice A 512 c ∧ Kd.C byteK w' A 512 zeros) ∧ (d.getD 3 false = true → x3 = .string (strOfNums zeros))) 1 rfl (by kernel_rfl) hHeld ?hF ?hstep ?hfin
                case hF =>
                  intro xs hx
                  match xs, hx with
                  | [x0, x1, x2, x3], _ => exact ⟨x0, x1, x2, x3, rfl, fun h => absurd h (by decide), fun h => absurd h (by decide), fun h => absurd h (by decide), fun h => absurd h (by decide)⟩
                case hstep =>
                  intro j hj
                  have hj : j < 4 := hj
                  rcases (by omega : j = 0 ∨ j = 1 ∨ j = 2 ∨ j = 3) with rfl | rfl | rfl | rfl
                  · intro d hd hjn hn xs wl hx hSl ⟨x0, x1, x2, x3, hxs, fa, fb, fc, fd⟩ a' ha o ho K hK
                    subst hxs
                    obtain rfl := Option.some.inj (ho.symm.trans (rfl : _ = some _))
                    simp only [putVs, Act.put, List.setIfInBounds_toArray, List.set_cons_zero, List.set_cons_succ] at ha
                    subst ha
                    refine goes_ Try.func26 (by kernel_rfl) rfl #[.pointer (some ⟨g, 0, none⟩), .int .i64 i] (by rfl) rfl rfl (by (try simp only [List.map_toArray, List.map_cons, List.map_nil]); first | done | rfl) ?_
                    refine (bytes_calls W.heap.size g (freshD n) (i : Int) ⟨by omega, by omega⟩ wl (HDi.out.below hSl)).mono ?_
                    rintro e w5 ⟨v5, rfl, h1, hb1⟩
                    rw [show bytesD (freshD n) (i : Int) = zeros by unfold bytesD; rw [if_neg (by show ¬ ((i : Int) < 0 ∨ (n : Int) ≤ (i : Int)); omega)]; rfl] at h1
                    obtain ⟨A6, c6, e6⟩ := Kd.R_slice h1
                    subst e6
                    have hr1 := Kd.R_reads' h1
                    have hz5 : zeros.length = 512 := List.length_replicate
                    rw [hz5] at hr1 ⊢
                    have hnew : ∃ A c, Value.slice A6 512 c6 = .slice A 512 c ∧ Kd.C byteK w5 A 512 zeros := ⟨A6, c6, rfl, hr1.2.2⟩
                    refine ⟨_, rfl, ?_⟩
                    exact hK.out _ w5 (hSl.trans (hb1.mono hSl.size)) ⟨_, _, _, _, rfl, fun h0 => hnew, fun h1 => absurd ((on_ne d 0 1 (by decide)).symm.trans h1) (fun h2 => bit_abs (before_of (j := 0) (k := 1) (by kernel_rfl) hd hjn hn) h2), fun h2 => (by obtain ⟨A6, c6, e6, h6⟩ := (fc ((on_ne d 0 2 (by decide)).symm.trans h2)); exact ⟨A6, c6, e6, Kd.C_below h6 hb1⟩), fun h3 => (fd ((on_ne d 0 3 (by decide)).symm.trans h3))⟩
                  · intro d hd hjn hn xs wl hx hSl ⟨x0, x1, x2, x3, hxs, fa, fb, fc, fd⟩ a' ha o ho K hK
                    subst hxs
                    obtain rfl := Option.some.inj (ho.symm.trans (rfl : _ = some _))
                    simp only [putVs, Act.put, List.setIfInBounds_toArray, List.set_cons_zero, List.set_cons_succ] at ha
                    subst ha
                    have ga := fa (after_of (j := 1) (k := 0) (by kernel_rfl) hd hjn hn)
                    obtain ⟨A6, c6, rfl, h6⟩ := ga
                    refine value_ rfl rfl (v := .string (strOfNums zeros)) (w1 := wl) (exec_conv (x := .tmp 120) rfl rfl (bytes_string (c := c6) h6)) ?_
                    exact hK.out _ wl hSl ⟨_, _, _, _, rfl, fun h0 => (fa (after_of (j := 1) (k := 0) (by kernel_rfl) hd hjn hn)), fun h1 => rfl, fun h2 => (fc ((on_ne d 1 2 (by decide)).symm.trans h2)), fun h3 => (fd ((on_ne d 1 3 (by decide)).symm.trans h3))⟩
                  · intro d hd hjn hn xs wl hx hSl ⟨x0, x1, x2, x3, hxs, fa, fb, fc, fd⟩ a' ha o ho K hK
                    subst hxs
                    obtain rfl := Option.some.inj (ho.symm.trans (rfl : _ = some _))
                    simp only [putVs, Act.put, List.setIfInBounds_toArray, List.set_cons_zero, List.set_cons_succ] at ha
                    subst ha
                    refine Kd.R_make_step byteK (w0 := wl) wl.heap.size 5 (by rfl) (N := 122) rfl 56 _ _ rfl 512 rfl rfl Try.underlying56 (.int .u8 0) 1 INF5.out rfl (by decide) (by decide) 0 (ok := tt) (okp := tt) ?hz (fun _ h => h) trivial (by decide) (by decide) (Below.refl _ _) (Nat.le_refl _) ?_; (case hz => rfl)
                    intro v6 w6 ho hb1 hG hnw
                    obtain ⟨A6, c6, e6⟩ := Kd.R_slice ho
                    subst e6
                    have hr1 := Kd.R_reads' ho
                    rw [List.length_replicate] at hr1 ⊢
                    have hnew : ∃ A c, Value.slice A6 512 c6 = .slice A 512 c ∧ Kd.C byteK w6 A 512 zeros := ⟨A6, c6, rfl, hr1.2.2⟩
                    exact hK.out _ w6 (hSl.trans (hb1.mono hSl.size)) ⟨_, _, _, _, rfl, fun h0 => (by obtain ⟨A6, c6, e6, h6⟩ := (fa ((on_ne d 2 0 (by decide)).symm.trans h0)); exact ⟨A6, c6, e6, Kd.C_below h6 hb1⟩), fun h1 => (fb ((on_ne d 2 1 (by decide)).symm.trans h1)), fun h2 => hnew, fun h3 => absurd ((on_ne d 2 3 (by decide)).symm.trans h3) (fun h2 => bit_abs (before_of (j := 2) (k := 3) (by kernel_rfl) hd hjn hn) h2)⟩
                  · intro d hd hjn hn xs wl hx hSl ⟨x0, x1, x2, x3, hxs, fa, fb, fc, fd⟩ a' ha o ho K hK
                    subst hxs
                    obtain rfl := Option.some.inj (ho.symm.trans (rfl : _ = some _))
                    simp only [putVs, Act.put, List.setIfInBounds_toArray, List.set_cons_zero, List.set_cons_succ] at ha
                    subst ha
                    have gc := fc (after_of (j := 3) (k := 2) (by kernel_rfl) hd hjn hn)
                    obtain ⟨A6, c6, rfl, h6⟩ := gc
                    refine value_ rfl rfl (v := .string (strOfNums zeros)) (w1 := wl) (exec_conv (x := .tmp 122) rfl rfl (bytes_string (c := c6) h6)) ?_
                    exact hK.out _ wl hSl ⟨_, _, _, _, rfl, fun h0 => (fa ((on_ne d 3 0 (by decide)).symm.trans h0)), fun h1 => (fb ((on_ne d 3 1 (by decide)).symm.trans h1)), fun h2 => (fc (after_of (j := 3) (k := 2) (by kernel_rfl) hd hjn hn)), fun h3 => rfl⟩
                case hfin =>
                  intro xs wl hx hSl ⟨x0, x1, x2, x3, hxs, fa, fb, fc, fd⟩ a' ha
                  subst hxs
                  simp only [putVs, Act.put, List.setIfInBounds_toArray, List.set_cons_zero, List.set_cons_succ] at ha
                  subst ha
                  have ga := fa (by decide)
                  have gb := fb (by decide)
                  have gc := fc (by decide)
                  have gd := fd (by decide)
                  clear fa fb fc fd
                  subst gb
                  subst gd
                  have hHeld := hSl
                  refine pure_ (i := 6) (N := some 124) (v := .bool false) (a' := ?_) #[true, true, true, true, true, true, true] rfl rfl (by kernel_rfl) (fun _ _ _ h => h) (Or.inl ⟨by rfl, ?_⟩) ?_ ?_
                  · intro w'
                    first | (go_simp; done) | (go_simp; simp)
                  rotate_left
                  · simp only [Act.put, List.setIfInBounds_toArray, List.set_cons_zero, List.set_cons_succ]
                    rfl
                  refine done_ (by kernel_rfl) ?_
                  have HS13 := Aside0.mk hHeld
                  clear hHeld hSl ga gc
                  go_wp2
                  go_roundw
                  case rel => exact ⟨i + 1, by omega, by go_num, ⟨HDi.out.below HS13.out⟩, ⟨HBi.out.trans (HS13.out.mono HBi.out.size)⟩⟩
                  case measure => simp [intOf]; omega
              · have g1 : decide ((i : Int) < n) = false := decide_eq_false (by omega)
                go_wp2_with (first
                  | (go_at_call 27; refine (pending_calls W.heap.size g (freshD n) wr HDi.out).mono ?_; rintro e w12 ⟨rfl, hw12⟩; cases hw12; rw [show ((freshD n) : D).since.length = 0 from rfl])
                  | (go_at_call 15; refine (lives_c wr).mono ?_; rintro e w20 ⟨rfl, h1⟩; have HB20 := Aside0.mk (HBi.out.trans (h1.mono HBi.out.size)); clear h1))
                go_ret
                exact ⟨rfl, HB20.out⟩
          · have f9 : decide ((62 : Int) < (k : Nat)) = false := decide_eq_false (by omega)
            have hW : rfW n sz l k = 0 := by unfold rfW; rw [if_neg (by rw [hbd]; decide), if_neg h62]
            rw [hW] at HD2 ⊢
            rw [hbd]
            have HSI := Aside0.mk HD2.out.1
            clear hbd hW
            try rw [rfL_len]
            go_wp2_with fail
            go_loopw [17] (fun x wr => x = .int .i64 0 ∧ Aside0 (IsD W.heap.size wr g d') ∧ Aside0 (Below W.heap.size W wr)) (fun x _ => 0)
            case atStart => exact ⟨rfl, HD11, HB11⟩
            case round =>
              obtain ⟨rfl, HDi, HBi⟩ := hrel
              go_wp2_with (first
                | (go_at_call 27; refine (pending_calls W.heap.size g d' wr HDi.out).mono ?_; rintro e w12 ⟨rfl, hw12⟩; cases hw12; rw [show (d' : D).since.length = 0 from by rw [HSI.out]; rfl])
                | (go_at_call 15; refine (lives_c wr).mono ?_; rintro e w20 ⟨rfl, h1⟩; have HB20 := Aside0.mk (HBi.out.trans (h1.mono HBi.out.size)); clear h1))
              go_ret
              exact ⟨rfl, HB20.out⟩
end Go.Proofs.Ytmghgghheebnjaa.Dis
namespace Go.Proofs.Ytmghgghheebnjaa.walRefuses
open Go.ChangeShapes Go.WideShapes Go.ChangeAt Go.RowKit Go.Joins
open Go.ChangeMaps (open_string shut_string)
set_option linter.unusedVariables false
theorem own : ownKnob Try.prog.godebug = none := by kernel_rfl
theorem laidOut : laidOutB Try.prog = true := by kernel_rfl
theorem reach : reachBytes = 140737488351232 := by kernel_rfl
set_option maxHeartbeats 1000000 in
set_option maxRecDepth 100000 in
theorem lifted (os : Os) (started : os.Started) (H : Type) (enc : TypeId × Value → H) :
    ReturnsInHanded {} Try.checked os 6 .any (Rows.walRefusesSpec.pre6 enc Try.prog Try.f6 Rows.walRefusesRow.domain false) (Rows.walRefusesSpec.post enc Try.prog Try.f6 false true false false) := by
  refine returnsInHanded_of_change_sized (C := Try.checked) own started (by kernel_rfl) Try.func6
    (ChangeSpec.witness6 (enc := enc) (C := Try.checked) false ⟨#[], #[.slice none 0 0, .int .u8 0, .int .u16 0], []⟩ 8 (by kernel_rfl) (by kernel_rfl) (by kernel_rfl) (by kernel_rfl)) ?_
  intro W base args ds gs before hval0 hW hcnd hsz0 _
  have hval : ∀ (j : Nat) t v, Try.f6.params[j]? = some t → args[j]? = some v → Value.okWide Try.prog W .any base t v := hval0
  have hW' := hW
  obtain ⟨p, q, hA0, hV, rfl, hfz, hnd⟩ := hW
  have hA : DataW.TrodAll enc Try.prog W 0 (fun _ => true) true Try.f6.params.toList args.toList ds p := hA0
  rw [Try.params6] at hA hval hsz0
  obtain ⟨v0, vs0, d0, ds0, p0, q0, hargs, rfl, rfl, h0, r0⟩ := trodAll_cons hA
  obtain ⟨v1, vs1, d1, ds1, p1, q1, rfl, rfl, rfl, h1, r1⟩ := trodAll_cons r0
  obtain ⟨v2, vs2, d2, ds2, p2, q2, rfl, rfl, rfl, h2, r2⟩ := trodAll_cons r1
  obtain ⟨rfl, rfl, rfl⟩ := trodAll_nil r2
  obtain rfl : args = #[v0, v1, v2] := by cases args; simp_all
  obtain ⟨rfl, rfl⟩ := trodVars_none hV
  have k0 := h0
  have lt0 : ∀ x ∈ p0, x.block < W.heap.size := by obtain ⟨m, hm⟩ := k0; exact DataW.trod_lt m _ _ _ hm
  obtain ⟨x0, len0, cap0, rfl⟩ := okWide_slice Try.underlying43 (hval 0 43 v0 rfl rfl)
  obtain ⟨m0, f0⟩ := h0
  obtain ⟨A0, c0, l0, e0, B0, H0, O0⟩ := Dis.puts_K f0
  have e0' := congrArg (fun x => x[0]?) e0
  simp [Value.cells] at e0'
  obtain ⟨rfl, rfl, rfl⟩ := e0'
  have z0 : ((d0, p0).1.weights Try.prog 43).all (· ≤ reachBytes) = true := List.all_eq_true.2 fun n hn => List.all_eq_true.1 hsz0 n (DataW.weights_mem_each (j := 0) rfl rfl n hn)
  have O0 := And.intro O0.1 (O0.2 reachBytes z0)
  obtain ⟨a1, rfl, rfl, rfl, w1⟩ := open_int Try.underlying5 (hval 1 5 v1 rfl rfl) h1
  obtain ⟨a2, rfl, rfl, rfl, w2⟩ := open_int Try.underlying55 (hval 2 55 v2 rfl rfl) h2
  clear hA0 hval0 hsz0
  rw [reach] at O0
  refine (Dis.refuse_calls W l0 x0 cap0 a1 a2 H0 B0 O0.1 (by have := bounds_u8 w1; omega) (by have := bounds_u8 w1; omega) (by have := bounds_u16 w2; omega) (by have := bounds_u16 w2; omega)).mono fun e W' ⟨he, bel⟩ => ?_
  subst he
  exact ⟨_, rfl, _, _, _, [], _, [], hW', trodAll_mk1 (shut_bool Try.underlying4 _), (trodAll_cons_mk (Below.trod laidOut (by kernel_rfl) (of_decide_eq_true (by kernel_rfl)) k0 bel lt0) (trodAll_cons_mk (shut_int Try.underlying5 w1) (trodAll_cons_mk (shut_int Try.underlying55 w2) trodAll_mk0))), rfl, bel.frame _, fun h => by cases h⟩
theorem over : Rows.walRefusesRow.holds Try.pinned (OpenSpec.ofChange Rows.walRefusesSpec) :=
  OpenClaim.holds_of_wide 6 Try.f6 rfl rfl rfl rfl rfl rfl rfl ⟨rfl, rfl, rfl, rfl, rfl⟩ rfl rfl rfl rfl rfl (by kernel_rfl) Try.func6 (by kernel_rfl)
    (of_decide_eq_true (by kernel_rfl)) (by unfold Func.isWrapper; first | (rw [if_pos (by decide +kernel)]; kernel_rfl) | (rw [if_neg (by decide +kernel)]; exact ⟨rfl, rfl⟩))
    (fun os started H enc _ => lifted os started H enc)
theorem proved : Rows.WalRefusesSaid := over
#print axioms proved
end Go.Proofs.Ytmghgghheebnjaa.walRefuses
namespace Go.Proofs.Ytmghgghheebnjaa
/-- The row, under a short name, for the claim. -/
theorem walRefuses_holds : Rows.WalRefusesSaid := walRefuses.proved
end Go.Proofs.Ytmghgghheebnjaa
